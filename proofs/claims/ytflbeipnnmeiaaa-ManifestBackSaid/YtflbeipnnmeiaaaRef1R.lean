
/-
  Contracts of the reference's reader.
-/
import Derived.Test.YtflbeipnnmeiaaaRef1
namespace Go.Proofs.Ytflbeipnnmeiaaa
open Go.RowKit
set_option linter.unusedVariables false

abbrev Rdr1 := RdrT 58
def tkr (bs : List UInt8) (e n : Int) : List UInt8 × List UInt8 × Int :=
  if e ≠ 0 ∨ (bs.length : Int) < n then ([], [], 2) else (bs.take n.toNat, bs.drop n.toNat, e)

theorem RdB.nil (w : World) (G : List Nat) : RdB w G (.slice none 0 0) [] := ⟨none, 0, 0, rfl, rfl, by omega, by unfold maxLen; omega, Rd.nil _ _, by simp [addrOf], by simp⟩
theorem mem_add {A : Option Addr} {k i : Nat} (h : i ∈ addrOf (A.map (·.add k))) : i ∈ addrOf A := by
  cases A <;> simp_all [addrOf, Addr.add]
  split at h <;> simp_all

set_option maxHeartbeats 800000 in
theorem rRaw_any (w : World) (b : Nat) (G : List Nat) (bs : List UInt8) (e n : Int) (h : Rdr1 w b G bs e) (hl : bs.length ≤ 140737488355328) :
    Calls Try.prog 48 #[.pointer (some ⟨b, 0, none⟩), .int .i64 n] w fun en w' => ∃ v, en = .returned v ∧ Own w' 5 1 v (tkr bs e n).1.length (u8s (tkr bs e n).1) ∧ (∀ k ∈ rowOf v, w.heap.size ≤ k) ∧ Rdr1 w' b G (tkr bs e n).2.1 (tkr bs e n).2.2 ∧ Kept [b] w w' := by
  have H := Lib.hid h
  obtain ⟨v, h1, A, m, c, rfl, h2, h3, h4, h5, h6, h7⟩ := h.ex
  have hc0 := h1.cell 0
  have hc1 := h1.cell 1
  have hf0 := h1.frozen 0
  have hf1 := h1.frozen 1
  simp only [List.getElem?_toArray, List.getElem?_cons_zero, List.getElem?_cons_succ] at hc0 hc1
  have H1 := Lib.hid h1
  have H2 := Lib.hid h2
  have H5 := Lib.hid h5
  have H6 := Lib.hid h6
  have H7 := Lib.hid h7
  have hmx : c ≤ maxLen := h4
  unfold maxLen at h4
  clear h h1 h2 h5 h6 h7
  have bad : tkr bs e n = ([], [], 2) → ∀ w', Blk w' b 58 #[.slice none 0 0, .int .i64 2] → Kept [b] w w' → ∃ v, Ending.returned (.slice none 0 0) = .returned v ∧ Own w' 5 1 v (tkr bs e n).1.length (u8s (tkr bs e n).1) ∧ (∀ k ∈ rowOf v, w.heap.size ≤ k) ∧ Rdr1 w' b G (tkr bs e n).2.1 (tkr bs e n).2.2 ∧ Kept [b] w w' := by
    intro ht w' hb hk
    rw [ht]
    exact ⟨_, rfl, Own.nil _ _ _, by simp [rowOf, Value.ownBlock], ⟨⟨_, hb, RdB.nil _ _⟩, H.out.ne⟩, hk⟩
  have Bad := Lib.hid bad
  clear bad
  have hst : ∀ (x : Value), Kept [b] w ((w.setCell ⟨b, 1, none⟩ (.int .i64 2)).setCell ⟨b, 0, none⟩ x) := fun x => ((Kept.refl _ _).setCell (.inl (by simp)) _).setCell (.inl (by simp)) _
  have Hst := Lib.hid hst
  clear hst
  by_cases he : e = 0
  · subst he
    by_cases hlt : (m : Int) < n
    · have ht : tkr bs 0 n = ([], [], 2) := by simp [tkr, H2.out, hlt]
      have Ht := Lib.hid ht
      clear ht
      go_enter Try.func48, Try.ntmps48
      go_wp2
      go_ret
      exact Bad.out Ht.out _ ((H1.out.set 1 _).set 0 _) (Hst.out _)
    · -- so many bytes are taken
      obtain ⟨k, hk⟩ : ∃ k : Nat, k = n.toNat := ⟨_, rfl⟩
      have ht : tkr bs 0 n = (bs.take k, bs.drop k, 0) := by simp [tkr, H2.out, hlt, hk]
      have Ht := Lib.hid ht
      have hkm : k ≤ m := by omega
      have hk47 : k ≤ 140737488355328 := by rw [H2.out] at hl; omega
      clear ht
      have main : ∀ (v3 : Value) (w3 : World), Own w3 5 1 v3 (0 + k) ([] ++ u8s (bs.take k)) → Kept (rowOf (.slice none 0 0)) w w3 → (∀ j ∈ rowOf v3, j ∈ rowOf (.slice none 0 0) ∨ w.heap.size ≤ j) → ∀ A2 m2 c2,
          (m2 = m - k ∧ c2 = c - k ∧ (A2 = A.map (·.add k) ∨ A2 = A ∧ c = k)) →
          ∃ v, Ending.returned v3 = .returned v ∧ Own (w3.setCell ⟨b, 0, none⟩ (.slice A2 m2 c2)) 5 1 v (tkr bs 0 n).1.length (u8s (tkr bs 0 n).1) ∧ (∀ k ∈ rowOf v, w.heap.size ≤ k) ∧ Rdr1 (w3.setCell ⟨b, 0, none⟩ (.slice A2 m2 c2)) b G (tkr bs 0 n).2.1 (tkr bs 0 n).2.2 ∧ Kept [b] w (w3.setCell ⟨b, 0, none⟩ (.slice A2 m2 c2)) := by
        intro v3 w3 ho hk3 hr3 A2 m2 c2 ⟨e1, e2, e3⟩
        subst e1 e2
        rw [Ht.out]
        have hk3' : Kept [] w w3 := hk3.mono (by simp [rowOf, Value.ownBlock])
        have hb3 := H1.out.kept hk3' (by simp)
        have hnew : ∀ j ∈ rowOf v3, w.heap.size ≤ j := fun j hj => (hr3 j hj).resolve_left (by simp [rowOf, Value.ownBlock])
        have hlen : (bs.take k).length = k := by rw [List.length_take, H2.out]; omega
        have hbw := H1.out.lt
        refine ⟨v3, rfl, ?_, hnew, ⟨⟨_, hb3.set 0 _, ?_⟩, H.out.ne⟩, (hk3'.mono (by simp)).setCell (.inl (by simp)) _⟩
        · have := ho.far (p := ⟨b, 0, none⟩) (fun j hj => by have := hnew j hj; simp; omega) (.slice A2 (m - k) (c - k))
          rw [hlen]
          simpa using this
        · have hbg : b ∉ G := H.out.ne
          have hG : bs ≠ [] → ∀ i ∈ addrOf A, i ∉ [b] := fun hne i hi => by simp; rintro rfl; exact hbg (H6.out _ hi hne)
          have hkk : Kept [b] w (w3.setCell ⟨b, 0, none⟩ (.slice A2 (m - k) (c - k))) := (hk3'.mono (by simp)).setCell (.inl (by simp)) _
          rcases e3 with rfl | ⟨rfl, e3⟩
          · refine ⟨_, _, _, rfl, by rw [List.length_drop, H2.out], by omega, by omega, Rd.kept (H5.out.drop k) hkk (fun hne i hi => hG (ne_drop (u8s_ne hne)) i (mem_add hi)), fun i hi hne => H6.out _ (mem_add hi) (ne_drop hne), fun hA => ?_⟩
            have : A = none := by cases A <;> simp_all
            have := H7.out this; omega
          · have hd : bs.drop k = [] := by rw [List.drop_eq_nil_iff, H2.out]; omega
            rw [hd]
            exact ⟨A2, _, _, rfl, by simp; omega, by omega, by omega, Rd.nil _ _, fun _ _ h => absurd rfl h, fun hA => by have := H7.out hA; omega⟩
      have Main := Lib.hid main
      clear main
      have hrd := H5.out.take k
      have Hrd := Lib.hid hrd
      clear hrd
      have hlk : (u8s (bs.take k)).length = k * 1 := by rw [u8s_len, List.length_take, H2.out]; omega
      have Hlk := Lib.hid hlk
      clear hlk
      by_cases hn : n < 0
      · obtain rfl : k = 0 := by omega
        clear hk
        go_enter Try.func48, Try.ntmps48
        go_wp2_with (at_builtin
                     refine wpList_app _ rfl (.const (.slice none 0 0)) (.tmp 33) 25 rfl elem_u8 (by rfl) (Own.nil w _ 1) (by rfl) Hrd.out Hlk.out (u8s_one _) (by unfold maxLen; omega) (by omega) ?_
                     intro v3 w3 ho3 hk3 hr3
                     have hb3 := H1.out.kept hk3 (by simp [rowOf, Value.ownBlock])
                     have hd0 := hb3.cell 0
                     have hg0 := hb3.frozen 0
                     simp only [List.getElem?_toArray, List.getElem?_cons_zero] at hd0
                     have Ho3 := Lib.hid ho3
                     have Hk3 := Lib.hid hk3
                     have Hr3 := Lib.hid hr3
                     clear hb3 ho3 hk3 hr3)
        all_goals go_ret
        all_goals refine Main.out _ _ Ho3.out Hk3.out Hr3.out _ _ _ ?_
        all_goals first | exact ⟨by omega, by omega, .inr ⟨rfl, by omega⟩⟩ | exact ⟨by omega, by omega, .inl (by cases A <;> simp [Addr.add])⟩
      · obtain rfl : n = (k : Int) := by omega
        clear hk
        go_enter Try.func48, Try.ntmps48
        go_wp2_with (at_builtin
                     refine wpList_app _ rfl (.const (.slice none 0 0)) (.tmp 33) 25 rfl elem_u8 (by rfl) (Own.nil w _ 1) (by rfl) Hrd.out Hlk.out (u8s_one _) (by unfold maxLen; omega) (by omega) ?_
                     intro v3 w3 ho3 hk3 hr3
                     have hb3 := H1.out.kept hk3 (by simp [rowOf, Value.ownBlock])
                     have hd0 := hb3.cell 0
                     have hg0 := hb3.frozen 0
                     simp only [List.getElem?_toArray, List.getElem?_cons_zero] at hd0
                     have Ho3 := Lib.hid ho3
                     have Hk3 := Lib.hid hk3
                     have Hr3 := Lib.hid hr3
                     clear hb3 ho3 hk3 hr3)
        all_goals go_ret
        all_goals refine Main.out _ _ Ho3.out Hk3.out Hr3.out _ _ _ ?_
        all_goals first | exact ⟨by omega, by omega, .inr ⟨rfl, by omega⟩⟩ | exact ⟨by omega, by omega, .inl rfl⟩
  · have ht : tkr bs e n = ([], [], 2) := by simp [tkr, he]
    have Ht := Lib.hid ht
    clear ht
    have hb : (e == 0) = false := by simpa using he
    by_cases hn : n < 0
    all_goals
      go_enter Try.func48, Try.ntmps48
      go_wp2
      go_ret
      exact Bad.out Ht.out _ ((H1.out.set 1 _).set 0 _) (Hst.out _)

theorem tkr_len (bs : List UInt8) (e : Int) (n : Nat) : (tkr bs e n).1.length ≤ n := by
  unfold tkr; split <;> simp; omega

set_option maxHeartbeats 400000 in
theorem rnum_any (w : World) (b : Nat) (G : List Nat) (bs : List UInt8) (e : Int) (n : Nat) (h : Rdr1 w b G bs e) (hn : n ≤ 8) (hl : bs.length ≤ 140737488355328) :
    Calls Try.prog 43 #[.pointer (some ⟨b, 0, none⟩), .int .i64 n] w fun en w' => en = .returned (.int .u64 (num (tkr bs e n).1 : Nat)) ∧ Rdr1 w' b G (tkr bs e n).2.1 (tkr bs e n).2.2 ∧ Kept [b] w w' := by
  go_enter Try.func43, Try.ntmps43
  go_wp2_with fail
  refine (rRaw_any w b G bs e n h hl).mono ?_
  rintro en w' ⟨v, rfl, h1, h2, h3, h4⟩
  have H2 := Lib.hid (RdB.of_own h1)
  have H3 := Lib.hid h3
  have H4 := Lib.hid h4
  clear h h1 h2 h3 h4
  obtain ⟨A, m, c, rfl, h6, h7, h8, -⟩ := H2.out
  have hm : m ≤ 8 := by have := tkr_len bs e n; omega
  generalize hcs : (tkr bs e n).1 = cs at *
  have H6 := Lib.hid h6
  have Hcs := Lib.hid hcs
  clear hcs h6
  unfold maxLen at h8
  go_wp2
  go_loop [5, 12] (fun x i => ∃ k : Nat, k ≤ m ∧ i = .int .i64 k ∧ x = .int .u64 (num (cs.take k) : Nat)) (fun _ i => m - (intOf i).toNat)
  case atStart => exact ⟨0, by omega, rfl, rfl⟩
  case round =>
    obtain ⟨k, hk, rfl, rfl⟩ := hrel
    by_cases hlt : k < m
    · obtain ⟨g, o, rfl, hc⟩ := H2.out.at hlt
      have hb := num_lt (cs.take k)
      rw [List.length_take, Nat.min_eq_left (by rw [H6.out]; omega)] at hb
      have hb2 := pow256_le (show k ≤ 7 by omega)
      have hst := Lib.hid (or_step (num (cs.take k)) (cs[k]?.getD 0) (by omega))
      clear hb hb2
      go_wp2
      go_round
      case rel => exact ⟨k + 1, by omega, by go_num, by rw [hst.out, num_take cs k (by rw [H6.out]; omega)]⟩
      case measure => simp [intOf]; omega
    · go_wp2
      go_ret
      have : cs.take k = cs := List.take_of_length_le (by rw [H6.out]; omega)
      exact ⟨by rw [this, Hcs.out]; rfl, H3.out, H4.out⟩

set_option maxHeartbeats 400000 in
theorem rRU16_any (w : World) (b : Nat) (G : List Nat) (bs : List UInt8) (e : Int) (h : Rdr1 w b G bs e) (hl : bs.length ≤ 140737488355328) :
    Calls Try.prog 29 #[.pointer (some ⟨b, 0, none⟩)] w fun en w' => en = .returned (.int .i64 (num (tkr bs e 2).1 : Nat)) ∧ Rdr1 w' b G (tkr bs e 2).2.1 (tkr bs e 2).2.2 ∧ Kept [b] w w' := by
  have hb := num_lt (tkr bs e 2).1
  have hb2 := tkr_len bs e 2
  have hb3 : (256:Nat) ^ (tkr bs e 2).1.length ≤ 256 ^ 2 := Nat.pow_le_pow_right (by omega) hb2
  have hw : IntKind.i64.wrap (num (tkr bs e 2).1 : Nat) = (num (tkr bs e 2).1 : Nat) := IntWalk.i64_in _ (by omega)
  clear hb hb2 hb3
  go_enter Try.func29, Try.ntmps29
  go_wp2_with fail
  refine (rnum_any w b G bs e 2 h (by omega) hl).mono ?_
  rintro en w' ⟨rfl, h2⟩
  have H2 := Lib.hid h2
  clear h2 h
  go_wp2
  go_ret
  exact ⟨rfl, H2.out⟩

set_option maxHeartbeats 400000 in
theorem rRU32_any (w : World) (b : Nat) (G : List Nat) (bs : List UInt8) (e : Int) (h : Rdr1 w b G bs e) (hl : bs.length ≤ 140737488355328) :
    Calls Try.prog 28 #[.pointer (some ⟨b, 0, none⟩)] w fun en w' => en = .returned (.int .u32 (num (tkr bs e 4).1 : Nat)) ∧ Rdr1 w' b G (tkr bs e 4).2.1 (tkr bs e 4).2.2 ∧ Kept [b] w w' := by
  have hb := num_lt (tkr bs e 4).1
  have hb2 := tkr_len bs e 4
  have hb3 : (256:Nat) ^ (tkr bs e 4).1.length ≤ 256 ^ 4 := Nat.pow_le_pow_right (by omega) hb2
  have hw : IntKind.u32.wrap (num (tkr bs e 4).1 : Nat) = (num (tkr bs e 4).1 : Nat) := by rw [IntKind.wrap_u32]; omega
  clear hb hb2 hb3
  go_enter Try.func28, Try.ntmps28
  go_wp2_with fail
  refine (rnum_any w b G bs e 4 h (by omega) hl).mono ?_
  rintro en w' ⟨rfl, h2⟩
  have H2 := Lib.hid h2
  clear h2 h
  go_wp2
  go_ret
  exact ⟨rfl, H2.out⟩

set_option maxHeartbeats 400000 in
theorem rEnd_any (w : World) (b : Nat) (G : List Nat) (bs : List UInt8) (e : Int) (h : Rdr1 w b G bs e) :
    Calls Try.prog 30 #[.pointer (some ⟨b, 0, none⟩)] w fun en w' => en = .returned (.int .i64 (endOf bs e)) ∧ w = w' := by
  obtain ⟨v, h1, A, m, c, rfl, h2, h3, h4, h5, h6, h7⟩ := h.ex
  have hc0 := h1.cell 0
  have hc1 := h1.cell 1
  simp only [List.getElem?_toArray, List.getElem?_cons_zero, List.getElem?_cons_succ] at hc0 hc1
  clear h1 h3 h4 h5 h6 h7 h
  subst h2
  by_cases he : e = 0
  · subst he
    cases bs with
    | nil =>
      go_enter Try.func30, Try.ntmps30
      go_wp2
      go_ret
      exact ⟨rfl, rfl⟩
    | cons x r =>
      have hx : (0 : Int) < ((x :: r).length : Int) := by simp only [List.length_cons]; omega
      generalize hn : (x :: r).length = n at *
      have he : endOf (x :: r) 0 = 3 := by simp [endOf]
      have He := Lib.hid he
      clear he hn
      go_enter Try.func30, Try.ntmps30
      go_wp2
      go_ret
      rw [He.out]; exact ⟨rfl, rfl⟩
  · have hb : (e == 0) = false := by simpa using he
    have he : endOf bs e = e := by simp [endOf, he]
    have He := Lib.hid he
    clear he
    go_enter Try.func30, Try.ntmps30
    go_wp2
    go_ret
    rw [He.out]; exact ⟨rfl, rfl⟩


end Go.Proofs.Ytflbeipnnmeiaaa
