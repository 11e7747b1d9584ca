/-
  Readers of the call's own; a tuple read.
-/
import Derived.Test.YtkacghjglicjiaaGreatRecA
import Derived.Test.YtkacghjglicjiaaGreatRecF
import Derived.Test.YtkacghjglicjiaaGreatFrame
import Derived.Test.YtkacghjglicjiaaGreatBlk
import Derived.Test.YtkacghjglicjiaaGreatRecD
namespace Go.Proofs.YtkacghjglicjiaaGreat
set_option linter.unusedVariables false
section
open Go.RowKit
set_option maxRecDepth 100000
-- the sum tells one byte that is changed
theorem crcBit_inj {a b : Nat} (ha : a < 4294967296) (hb : b < 4294967296) (h : crcBit a = crcBit b) : a = b := by
  have top : ∀ x : Nat, x < 2147483648 → (x ^^^ 2197175160).testBit 31 = true := by
    intro x hx
    rw [Nat.testBit_xor, Nat.testBit_lt_two_pow (show x < 2 ^ 31 by omega)]
    decide
  have low : ∀ x : Nat, x < 2147483648 → x.testBit 31 = false := fun x hx => Nat.testBit_lt_two_pow (by omega)
  have back : ∀ x y : Nat, x ^^^ 2197175160 = y ^^^ 2197175160 → x = y := by
    intro x y e
    have := congrArg (· ^^^ 2197175160) e
    simpa [Nat.xor_assoc] using this
  unfold crcBit at h
  by_cases h1 : a % 2 = 1 <;> by_cases h2 : b % 2 = 1 <;> simp only [h1, h2, if_true, if_false] at h
  · have := back _ _ h; omega
  · have e := top (a / 2) (by omega)
    rw [h, low _ (by omega)] at e; cases e
  · have e := top (b / 2) (by omega)
    rw [← h, low _ (by omega)] at e; cases e
  · omega
theorem crcBits_inj {a b : Nat} (ha : a < 4294967296) (hb : b < 4294967296) : ∀ k, crcBits k a = crcBits k b → a = b
  | 0, h => h
  | k + 1, h => crcBits_inj ha hb k (crcBit_inj (crcBits_lt ha k) (crcBits_lt hb k) h)
theorem xor_inj_l {a b c : Nat} (h : a ^^^ c = b ^^^ c) : a = b := by
  have := congrArg (· ^^^ c) h
  simpa [Nat.xor_assoc] using this
theorem xor_inj_r {a b c : Nat} (h : c ^^^ a = c ^^^ b) : a = b := by
  rw [Nat.xor_comm c a, Nat.xor_comm c b] at h; exact xor_inj_l h
theorem crcByte_inj_l {a b : Nat} (ha : a < 4294967296) (hb : b < 4294967296) {x : UInt8} (h : crcByte a x = crcByte b x) : a = b :=
  xor_inj_l (crcBits_inj (xor_byte_lt ha x) (xor_byte_lt hb x) 8 h)
theorem crcByte_inj_r {a : Nat} (ha : a < 4294967296) {x y : UInt8} (h : crcByte a x = crcByte a y) : x = y :=
  UInt8.toNat_inj.1 (xor_inj_r (crcBits_inj (xor_byte_lt ha x) (xor_byte_lt ha y) 8 h))
theorem crcFrom_inj : ∀ (l : List UInt8) {a b : Nat}, a < 4294967296 → b < 4294967296 → crcFrom a l = crcFrom b l → a = b
  | [], _, _, _, _, h => h
  | x :: l, a, b, ha, hb, h => crcByte_inj_l ha hb (crcFrom_inj l (crcByte_lt ha x) (crcByte_lt hb x) h)
theorem crcFrom_app (c : Nat) (l l' : List UInt8) : crcFrom c (l ++ l') = crcFrom (crcFrom c l) l' := by simp [crcFrom]
theorem crc_flip {l : List UInt8} {i : Nat} (hi : i < l.length) {y : UInt8} (hy : y ≠ l[i]) : crc (l.set i y) ≠ crc l := by
  intro h
  have h : crcFrom 4294967295 (l.set i y) = crcFrom 4294967295 l := xor_inj_r h
  have e1 : l = l.take i ++ ([l[i]] ++ l.drop (i + 1)) := by simp
  have e2 : l.set i y = l.take i ++ ([y] ++ l.drop (i + 1)) := by rw [List.set_eq_take_append_cons_drop, if_pos hi]; rfl
  have h1 : crcFrom 4294967295 l = crcFrom (crcByte (crcFrom 4294967295 (l.take i)) l[i]) (l.drop (i + 1)) := by
    conv => lhs; rw [e1]
    rw [crcFrom_app, crcFrom_app]; rfl
  have h2 : crcFrom 4294967295 (l.set i y) = crcFrom (crcByte (crcFrom 4294967295 (l.take i)) y) (l.drop (i + 1)) := by
    rw [e2, crcFrom_app, crcFrom_app]; rfl
  rw [h1, h2] at h
  have hc := crcFrom_lt (l.take i) (c := 4294967295) (by omega)
  exact hy (crcByte_inj_r hc (crcFrom_inj _ (crcByte_lt hc _) (crcByte_lt hc _) h))
theorem takeF_ok {c : List UInt8} (h : (takeF c).2.2 = 0) : 16 ≤ c.length ∧ num ((c.drop 8).take 4) = crc (c.take 8) ∧ num ((c.drop 6).take 2) ≤ (c.drop 16).length ∧ num ((c.drop 12).take 4) = crc ((c.drop 16).take (num ((c.drop 6).take 2))) ∧
    (takeF c).2.1 = 16 + num ((c.drop 6).take 2) ∧ (takeF c).1 = ⟨(num ((c.drop 4).take 1) : Nat), (num ((c.drop 5).take 1) : Nat), (c.drop 16).take (num ((c.drop 6).take 2))⟩ ∧ num ((c.drop 6).take 2) ≤ 4096 := by
  unfold takeF at h ⊢
  by_cases h16 : c.length < 16
  · rw [if_pos h16] at h; cases h
  · rw [if_neg h16] at h ⊢
    unfold takeP at h ⊢
    by_cases g1 : c.take 4 ≠ [103, 111, 105, 116]
    · rw [if_pos g1] at h; cases h
    rw [if_neg g1] at h ⊢
    by_cases g2 : num ((c.drop 8).take 4) ≠ crc (c.take 4 ++ ((c.drop 4).take 1 ++ ((c.drop 5).take 1 ++ (c.drop 6).take 2)))
    · rw [if_pos g2] at h; cases h
    rw [if_neg g2] at h ⊢
    by_cases g3 : 4096 < num ((c.drop 6).take 2)
    · rw [if_pos g3] at h; cases h
    rw [if_neg g3] at h ⊢
    by_cases g4 : (c.drop 16).length < num ((c.drop 6).take 2)
    · rw [if_pos g4] at h; cases h
    rw [if_neg g4] at h ⊢
    by_cases g5 : num ((c.drop 12).take 4) ≠ crc ((c.drop 16).take (num ((c.drop 6).take 2)))
    · rw [if_pos g5] at h; cases h
    rw [if_neg g5] at h ⊢
    have e : c.take 4 ++ ((c.drop 4).take 1 ++ ((c.drop 5).take 1 ++ (c.drop 6).take 2)) = c.take 8 := by
      have a1 : c.take 8 = c.take 4 ++ (c.drop 4).take 4 := by rw [← List.take_add]
      have a2 : (c.drop 4).take 4 = (c.drop 4).take 1 ++ (c.drop 5).take 3 := by
        have := List.take_add (l := c.drop 4) (i := 1) (j := 3); simpa using this
      have a3 : (c.drop 5).take 3 = (c.drop 5).take 1 ++ (c.drop 6).take 2 := by
        have := List.take_add (l := c.drop 5) (i := 1) (j := 2); simpa using this
      rw [a1, a2, a3]
    rw [e] at g2
    exact ⟨by omega, by simpa using g2, by omega, by simpa using g5, rfl, rfl, by omega⟩
theorem num_inj {a b : List UInt8} (h : num a = num b) (hl : a.length = b.length) : a = b := by
  rw [← be_num a, ← be_num b, h, hl]
theorem set_ne {l : List UInt8} {i : Nat} (hi : i < l.length) {y : UInt8} (hy : y ≠ l[i]) : l.set i y ≠ l := by
  intro h
  have := congrArg (·[i]?) h
  simp [hi] at this
  exact hy this
end
section
open Go.RowKit
abbrev Rdr1 := RdrT 132
def tkr (bs : List UInt8) (e n : Int) : List UInt8 × List UInt8 × Int :=
  if e ≠ 0 ∨ (bs.length : Int) < n then ([], [], 2) else (bs.take n.toNat, bs.drop n.toNat, e)
theorem RdB.nil (w : World) (G : List Nat) : RdB w G (.slice none 0 0) [] := ⟨none, 0, 0, rfl, rfl, by omega, by unfold maxLen; omega, Rd.nil _ _, by simp [addrOf], by simp⟩
theorem mem_add {A : Option Addr} {k i : Nat} (h : i ∈ addrOf (A.map (·.add k))) : i ∈ addrOf A := by
  cases A <;> simp_all [addrOf, Addr.add]
  split at h <;> simp_all
set_option maxHeartbeats 800000 in
theorem rRaw_any (w : World) (b : Nat) (G : List Nat) (bs : List UInt8) (e n : Int) (h : Rdr1 w b G bs e) (hl : bs.length ≤ 140737488355328) :
    Calls Tryz.prog 139 #[.pointer (some ⟨b, 0, none⟩), .int .i64 n] w fun en w' => ∃ v, en = .returned v ∧ Own w' 5 1 v (tkr bs e n).1.length (u8s (tkr bs e n).1) ∧ (∀ k ∈ rowOf v, w.heap.size ≤ k) ∧ Rdr1 w' b G (tkr bs e n).2.1 (tkr bs e n).2.2 ∧ Kept [b] w w' := by
  have H := Lib.hid h
  obtain ⟨v, h1, A, m, c, rfl, h2, h3, h4, h5, h6, h7⟩ := h.ex
  have hc0 := h1.cell 0
  have hc1 := h1.cell 1
  have hf0 := h1.frozen 0
  have hf1 := h1.frozen 1
  simp only [List.getElem?_toArray, List.getElem?_cons_zero, List.getElem?_cons_succ] at hc0 hc1
  have H1 := Lib.hid h1
  have H2 := Lib.hid h2
  have H5 := Lib.hid h5
  have H6 := Lib.hid h6
  have H7 := Lib.hid h7
  have hmx : c ≤ maxLen := h4
  unfold maxLen at h4
  clear h h1 h2 h5 h6 h7
  have bad : tkr bs e n = ([], [], 2) → ∀ w', Blk w' b 132 #[.slice none 0 0, .int .i64 2] → Kept [b] w w' → ∃ v, Ending.returned (.slice none 0 0) = .returned v ∧ Own w' 5 1 v (tkr bs e n).1.length (u8s (tkr bs e n).1) ∧ (∀ k ∈ rowOf v, w.heap.size ≤ k) ∧ Rdr1 w' b G (tkr bs e n).2.1 (tkr bs e n).2.2 ∧ Kept [b] w w' := by
    intro ht w' hb hk
    rw [ht]
    exact ⟨_, rfl, Own.nil _ _ _, by simp [rowOf, Value.ownBlock], ⟨⟨_, hb, RdB.nil _ _⟩, H.out.ne⟩, hk⟩
  have Bad := Lib.hid bad
  clear bad
  have hst : ∀ (x : Value), Kept [b] w ((w.setCell ⟨b, 1, none⟩ (.int .i64 2)).setCell ⟨b, 0, none⟩ x) := fun x => ((Kept.refl _ _).setCell (.inl (by simp)) _).setCell (.inl (by simp)) _
  have Hst := Lib.hid hst
  clear hst
  by_cases he : e = 0
  · subst he
    by_cases hlt : (m : Int) < n
    · have ht : tkr bs 0 n = ([], [], 2) := by simp [tkr, H2.out, hlt]
      have Ht := Lib.hid ht
      clear ht
      go_enter Tryz.func139, Tryz.ntmps139
      go_wp2
      go_ret
      exact Bad.out Ht.out _ ((H1.out.set 1 _).set 0 _) (Hst.out _)
    · -- so many bytes are taken
      obtain ⟨k, hk⟩ : ∃ k : Nat, k = n.toNat := ⟨_, rfl⟩
      have ht : tkr bs 0 n = (bs.take k, bs.drop k, 0) := by simp [tkr, H2.out, hlt, hk]
      have Ht := Lib.hid ht
      have hkm : k ≤ m := by omega
      have hk47 : k ≤ 140737488355328 := by rw [H2.out] at hl; omega
      clear ht
      have main : ∀ (v3 : Value) (w3 : World), Own w3 5 1 v3 (0 + k) ([] ++ u8s (bs.take k)) → Kept (rowOf (.slice none 0 0)) w w3 → (∀ j ∈ rowOf v3, j ∈ rowOf (.slice none 0 0) ∨ w.heap.size ≤ j) → ∀ A2 m2 c2,
          (m2 = m - k ∧ c2 = c - k ∧ (A2 = A.map (·.add k) ∨ A2 = A ∧ c = k)) →
          ∃ v, Ending.returned v3 = .returned v ∧ Own (w3.setCell ⟨b, 0, none⟩ (.slice A2 m2 c2)) 5 1 v (tkr bs 0 n).1.length (u8s (tkr bs 0 n).1) ∧ (∀ k ∈ rowOf v, w.heap.size ≤ k) ∧ Rdr1 (w3.setCell ⟨b, 0, none⟩ (.slice A2 m2 c2)) b G (tkr bs 0 n).2.1 (tkr bs 0 n).2.2 ∧ Kept [b] w (w3.setCell ⟨b, 0, none⟩ (.slice A2 m2 c2)) := by
        intro v3 w3 ho hk3 hr3 A2 m2 c2 ⟨e1, e2, e3⟩
        subst e1 e2
        rw [Ht.out]
        have hk3' : Kept [] w w3 := hk3.mono (by simp [rowOf, Value.ownBlock])
        have hb3 := H1.out.kept hk3' (by simp)
        have hnew : ∀ j ∈ rowOf v3, w.heap.size ≤ j := fun j hj => (hr3 j hj).resolve_left (by simp [rowOf, Value.ownBlock])
        have hlen : (bs.take k).length = k := by rw [List.length_take, H2.out]; omega
        have hbw := H1.out.lt
        refine ⟨v3, rfl, ?_, hnew, ⟨⟨_, hb3.set 0 _, ?_⟩, H.out.ne⟩, (hk3'.mono (by simp)).setCell (.inl (by simp)) _⟩
        · have := ho.far (p := ⟨b, 0, none⟩) (fun j hj => by have := hnew j hj; simp; omega) (.slice A2 (m - k) (c - k))
          rw [hlen]
          simpa using this
        · have hbg : b ∉ G := H.out.ne
          have hG : bs ≠ [] → ∀ i ∈ addrOf A, i ∉ [b] := fun hne i hi => by simp; rintro rfl; exact hbg (H6.out _ hi hne)
          have hkk : Kept [b] w (w3.setCell ⟨b, 0, none⟩ (.slice A2 (m - k) (c - k))) := (hk3'.mono (by simp)).setCell (.inl (by simp)) _
          rcases e3 with rfl | ⟨rfl, e3⟩
          · refine ⟨_, _, _, rfl, by rw [List.length_drop, H2.out], by omega, by omega, Rd.kept (H5.out.drop k) hkk (fun hne i hi => hG (ne_drop (u8s_ne hne)) i (mem_add hi)), fun i hi hne => H6.out _ (mem_add hi) (ne_drop hne), fun hA => ?_⟩
            have : A = none := by cases A <;> simp_all
            have := H7.out this; omega
          · have hd : bs.drop k = [] := by rw [List.drop_eq_nil_iff, H2.out]; omega
            rw [hd]
            exact ⟨A2, _, _, rfl, by simp; omega, by omega, by omega, Rd.nil _ _, fun _ _ h => absurd rfl h, fun hA => by have := H7.out hA; omega⟩
      have Main := Lib.hid main
      clear main
      have hrd := H5.out.take k
      have Hrd := Lib.hid hrd
      clear hrd
      have hlk : (u8s (bs.take k)).length = k * 1 := by rw [u8s_len, List.length_take, H2.out]; omega
      have Hlk := Lib.hid hlk
      clear hlk
      by_cases hn : n < 0
      · obtain rfl : k = 0 := by omega
        clear hk
        go_enter Tryz.func139, Tryz.ntmps139
        go_wp2_with (at_builtin
                     refine wpList_app _ rfl (.const (.slice none 0 0)) (.tmp 33) 31 rfl elem_u8 (by rfl) (Own.nil w _ 1) (by rfl) Hrd.out Hlk.out (u8s_one _) (by unfold maxLen; omega) (by omega) ?_
                     intro v3 w3 ho3 hk3 hr3
                     have hb3 := H1.out.kept hk3 (by simp [rowOf, Value.ownBlock])
                     have hd0 := hb3.cell 0
                     have hg0 := hb3.frozen 0
                     simp only [List.getElem?_toArray, List.getElem?_cons_zero] at hd0
                     have Ho3 := Lib.hid ho3
                     have Hk3 := Lib.hid hk3
                     have Hr3 := Lib.hid hr3
                     clear hb3 ho3 hk3 hr3)
        all_goals go_ret
        all_goals refine Main.out _ _ Ho3.out Hk3.out Hr3.out _ _ _ ?_
        all_goals first | exact ⟨by omega, by omega, .inr ⟨rfl, by omega⟩⟩ | exact ⟨by omega, by omega, .inl (by cases A <;> simp [Addr.add])⟩
      · obtain rfl : n = (k : Int) := by omega
        clear hk
        go_enter Tryz.func139, Tryz.ntmps139
        go_wp2_with (at_builtin
                     refine wpList_app _ rfl (.const (.slice none 0 0)) (.tmp 33) 31 rfl elem_u8 (by rfl) (Own.nil w _ 1) (by rfl) Hrd.out Hlk.out (u8s_one _) (by unfold maxLen; omega) (by omega) ?_
                     intro v3 w3 ho3 hk3 hr3
                     have hb3 := H1.out.kept hk3 (by simp [rowOf, Value.ownBlock])
                     have hd0 := hb3.cell 0
                     have hg0 := hb3.frozen 0
                     simp only [List.getElem?_toArray, List.getElem?_cons_zero] at hd0
                     have Ho3 := Lib.hid ho3
                     have Hk3 := Lib.hid hk3
                     have Hr3 := Lib.hid hr3
                     clear hb3 ho3 hk3 hr3)
        all_goals go_ret
        all_goals refine Main.out _ _ Ho3.out Hk3.out Hr3.out _ _ _ ?_
        all_goals first | exact ⟨by omega, by omega, .inr ⟨rfl, by omega⟩⟩ | exact ⟨by omega, by omega, .inl rfl⟩
  · have ht : tkr bs e n = ([], [], 2) := by simp [tkr, he]
    have Ht := Lib.hid ht
    clear ht
    have hb : (e == 0) = false := by simpa using he
    by_cases hn : n < 0
    all_goals
      go_enter Tryz.func139, Tryz.ntmps139
      go_wp2
      go_ret
      exact Bad.out Ht.out _ ((H1.out.set 1 _).set 0 _) (Hst.out _)
theorem tkr_len (bs : List UInt8) (e : Int) (n : Nat) : (tkr bs e n).1.length ≤ n := by
  unfold tkr; split <;> simp; omega
set_option maxHeartbeats 400000 in
theorem rnum_any (w : World) (b : Nat) (G : List Nat) (bs : List UInt8) (e : Int) (n : Nat) (h : Rdr1 w b G bs e) (hn : n ≤ 8) (hl : bs.length ≤ 140737488355328) :
    Calls Tryz.prog 123 #[.pointer (some ⟨b, 0, none⟩), .int .i64 n] w fun en w' => en = .returned (.int .u64 (num (tkr bs e n).1 : Nat)) ∧ Rdr1 w' b G (tkr bs e n).2.1 (tkr bs e n).2.2 ∧ Kept [b] w w' := by
  go_enter Tryz.func123, Tryz.ntmps123
  go_wp2_with fail
  refine (rRaw_any w b G bs e n h hl).mono ?_
  rintro en w' ⟨v, rfl, h1, h2, h3, h4⟩
  have H2 := Lib.hid (RdB.of_own h1)
  have H3 := Lib.hid h3
  have H4 := Lib.hid h4
  clear h h1 h2 h3 h4
  obtain ⟨A, m, c, rfl, h6, h7, h8, -⟩ := H2.out
  have hm : m ≤ 8 := by have := tkr_len bs e n; omega
  generalize hcs : (tkr bs e n).1 = cs at *
  have H6 := Lib.hid h6
  have Hcs := Lib.hid hcs
  clear hcs h6
  unfold maxLen at h8
  go_wp2
  go_loop [5, 12] (fun x i => ∃ k : Nat, k ≤ m ∧ i = .int .i64 k ∧ x = .int .u64 (num (cs.take k) : Nat)) (fun _ i => m - (intOf i).toNat)
  case atStart => exact ⟨0, by omega, rfl, rfl⟩
  case round =>
    obtain ⟨k, hk, rfl, rfl⟩ := hrel
    by_cases hlt : k < m
    · obtain ⟨g, o, rfl, hc⟩ := H2.out.at hlt
      have hb := num_lt (cs.take k)
      rw [List.length_take, Nat.min_eq_left (by rw [H6.out]; omega)] at hb
      have hb2 := pow256_le (show k ≤ 7 by omega)
      have hst := Lib.hid (or_step (num (cs.take k)) (cs[k]?.getD 0) (by omega))
      clear hb hb2
      go_wp2
      go_round
      case rel => exact ⟨k + 1, by omega, by go_num, by rw [hst.out, num_take cs k (by rw [H6.out]; omega)]⟩
      case measure => simp [intOf]; omega
    · go_wp2
      go_ret
      have : cs.take k = cs := List.take_of_length_le (by rw [H6.out]; omega)
      exact ⟨by rw [this, Hcs.out]; rfl, H3.out, H4.out⟩
set_option maxHeartbeats 400000 in
theorem rRU8_any (w : World) (b : Nat) (G : List Nat) (bs : List UInt8) (e : Int) (h : Rdr1 w b G bs e) (hl : bs.length ≤ 140737488355328) :
    Calls Tryz.prog 83 #[.pointer (some ⟨b, 0, none⟩)] w fun en w' => en = .returned (.int .i64 (num (tkr bs e 1).1 : Nat)) ∧ Rdr1 w' b G (tkr bs e 1).2.1 (tkr bs e 1).2.2 ∧ Kept [b] w w' := by
  have hb := num_lt (tkr bs e 1).1
  have hb2 := tkr_len bs e 1
  have hb3 : (256:Nat) ^ (tkr bs e 1).1.length ≤ 256 ^ 1 := Nat.pow_le_pow_right (by omega) hb2
  have hw : IntKind.i64.wrap (num (tkr bs e 1).1 : Nat) = (num (tkr bs e 1).1 : Nat) := IntWalk.i64_in _ (by omega)
  clear hb hb2 hb3
  go_enter Tryz.func83, Tryz.ntmps83
  go_wp2_with fail
  refine (rnum_any w b G bs e 1 h (by omega) hl).mono ?_
  rintro en w' ⟨rfl, h2⟩
  have H2 := Lib.hid h2
  clear h2 h
  go_wp2
  go_ret
  exact ⟨rfl, H2.out⟩
set_option maxHeartbeats 400000 in
theorem rRU16_any (w : World) (b : Nat) (G : List Nat) (bs : List UInt8) (e : Int) (h : Rdr1 w b G bs e) (hl : bs.length ≤ 140737488355328) :
    Calls Tryz.prog 80 #[.pointer (some ⟨b, 0, none⟩)] w fun en w' => en = .returned (.int .i64 (num (tkr bs e 2).1 : Nat)) ∧ Rdr1 w' b G (tkr bs e 2).2.1 (tkr bs e 2).2.2 ∧ Kept [b] w w' := by
  have hb := num_lt (tkr bs e 2).1
  have hb2 := tkr_len bs e 2
  have hb3 : (256:Nat) ^ (tkr bs e 2).1.length ≤ 256 ^ 2 := Nat.pow_le_pow_right (by omega) hb2
  have hw : IntKind.i64.wrap (num (tkr bs e 2).1 : Nat) = (num (tkr bs e 2).1 : Nat) := IntWalk.i64_in _ (by omega)
  clear hb hb2 hb3
  go_enter Tryz.func80, Tryz.ntmps80
  go_wp2_with fail
  refine (rnum_any w b G bs e 2 h (by omega) hl).mono ?_
  rintro en w' ⟨rfl, h2⟩
  have H2 := Lib.hid h2
  clear h2 h
  go_wp2
  go_ret
  exact ⟨rfl, H2.out⟩
set_option maxHeartbeats 400000 in
theorem rRU32_any (w : World) (b : Nat) (G : List Nat) (bs : List UInt8) (e : Int) (h : Rdr1 w b G bs e) (hl : bs.length ≤ 140737488355328) :
    Calls Tryz.prog 81 #[.pointer (some ⟨b, 0, none⟩)] w fun en w' => en = .returned (.int .u32 (num (tkr bs e 4).1 : Nat)) ∧ Rdr1 w' b G (tkr bs e 4).2.1 (tkr bs e 4).2.2 ∧ Kept [b] w w' := by
  have hb := num_lt (tkr bs e 4).1
  have hb2 := tkr_len bs e 4
  have hb3 : (256:Nat) ^ (tkr bs e 4).1.length ≤ 256 ^ 4 := Nat.pow_le_pow_right (by omega) hb2
  have hw : IntKind.u32.wrap (num (tkr bs e 4).1 : Nat) = (num (tkr bs e 4).1 : Nat) := by rw [IntKind.wrap_u32]; omega
  clear hb hb2 hb3
  go_enter Tryz.func81, Tryz.ntmps81
  go_wp2_with fail
  refine (rnum_any w b G bs e 4 h (by omega) hl).mono ?_
  rintro en w' ⟨rfl, h2⟩
  have H2 := Lib.hid h2
  clear h2 h
  go_wp2
  go_ret
  exact ⟨rfl, H2.out⟩
set_option maxHeartbeats 400000 in
theorem rRI64_any (w : World) (b : Nat) (G : List Nat) (bs : List UInt8) (e : Int) (h : Rdr1 w b G bs e) (hl : bs.length ≤ 140737488355328) :
    Calls Tryz.prog 82 #[.pointer (some ⟨b, 0, none⟩)] w fun en w' => en = .returned (.int .i64 (wrap64 (num (tkr bs e 8).1 : Nat))) ∧ Rdr1 w' b G (tkr bs e 8).2.1 (tkr bs e 8).2.2 ∧ Kept [b] w w' := by
  have hw : IntKind.i64.wrap (num (tkr bs e 8).1 : Nat) = wrap64 (num (tkr bs e 8).1 : Nat) := IntWalk.i64_left _
  go_enter Tryz.func82, Tryz.ntmps82
  go_wp2_with fail
  refine (rnum_any w b G bs e 8 h (by omega) hl).mono ?_
  rintro en w' ⟨rfl, h2⟩
  have H2 := Lib.hid h2
  clear h2 h
  go_wp2
  go_ret
  exact ⟨rfl, H2.out⟩
set_option maxHeartbeats 400000 in
theorem rEnd_any (w : World) (b : Nat) (G : List Nat) (bs : List UInt8) (e : Int) (h : Rdr1 w b G bs e) :
    Calls Tryz.prog 84 #[.pointer (some ⟨b, 0, none⟩)] w fun en w' => en = .returned (.int .i64 (endOf bs e)) ∧ w = w' := by
  obtain ⟨v, h1, A, m, c, rfl, h2, h3, h4, h5, h6, h7⟩ := h.ex
  have hc0 := h1.cell 0
  have hc1 := h1.cell 1
  simp only [List.getElem?_toArray, List.getElem?_cons_zero, List.getElem?_cons_succ] at hc0 hc1
  clear h1 h3 h4 h5 h6 h7 h
  subst h2
  by_cases he : e = 0
  · subst he
    cases bs with
    | nil =>
      go_enter Tryz.func84, Tryz.ntmps84
      go_wp2
      go_ret
      exact ⟨rfl, rfl⟩
    | cons x r =>
      have hx : (0 : Int) < ((x :: r).length : Int) := by simp only [List.length_cons]; omega
      generalize hn : (x :: r).length = n at *
      have he : endOf (x :: r) 0 = 3 := by simp [endOf]
      have He := Lib.hid he
      clear he hn
      go_enter Tryz.func84, Tryz.ntmps84
      go_wp2
      go_ret
      rw [He.out]; exact ⟨rfl, rfl⟩
  · have hb : (e == 0) = false := by simpa using he
    have he : endOf bs e = e := by simp [endOf, he]
    have He := Lib.hid he
    clear he
    go_enter Tryz.func84, Tryz.ntmps84
    go_wp2
    go_ret
    rw [He.out]; exact ⟨rfl, rfl⟩
end
section
open Go.RowKit Go.ChangeShapes Go.WideShapes Go.Deep
set_option maxRecDepth 100000
def erO (o : Option (List UInt8)) : Int := if o.isSome then 0 else 2
def RW (t : TypeId) (W : World) (b : Nat) (o : Option (List UInt8)) (w : World) : Prop :=
  ∃ G, RdrT t w b G (o.getD []) (erO o) ∧ W.heap.size ≤ b ∧ (∀ k ∈ G, k < b) ∧ Kept [] W w ∧ (o.getD []).length ≤ 1000000
abbrev RWo := RW 163
abbrev RWr := RW 132
section
variable {t : TypeId} {W w w' : World} {b : Nat} {o : Option (List UInt8)}
theorem RW.kept (h : RW t W b o w) : Kept [] W w := by obtain ⟨_, _, _, _, h, _⟩ := h; exact h
theorem RW.lt (h : RW t W b o w) : b < w.heap.size := by obtain ⟨_, ⟨⟨_, h, _⟩, _⟩, _⟩ := h; exact h.lt
theorem RW.ge (h : RW t W b o w) : W.heap.size ≤ b := by obtain ⟨_, _, h, _⟩ := h; exact h
theorem RW.other {S : List Nat} (h : RW t W b o w) (hk : Kept S w w') (hS : ∀ k ∈ S, b < k) : RW t W b o w' := by
  obtain ⟨G, h1, h2, h3, h4, h5⟩ := h
  exact ⟨G, h1.kept hk (fun hm => Nat.lt_irrefl _ (hS b hm)) (fun k hk' hm => Nat.lt_asymm (h3 k hk') (hS k hm)), h2, h3, h4.trans hk (fun i hi => .inr (by have := hS i hi; omega)), h5⟩
theorem RW.go (h : RW t W b o w) (hk : Kept [] w w') : RW t W b o w' := h.other hk (by simp)
theorem nk_le (o : Option (List UInt8)) (k : Nat) : ((nk o k).getD []).length ≤ (o.getD []).length := by
  cases o with
  | none => simp [nk]
  | some bs => simp only [nk]; split <;> simp
theorem tk_o (o : Option (List UInt8)) (k : Nat) : num (tk (o.getD []) (erO o) k).1 = gk o k ∧ (tk (o.getD []) (erO o) k).2.1 = (nk o k).getD [] ∧ (tk (o.getD []) (erO o) k).2.2 = erO (nk o k) := by
  cases o with
  | none => simp [tk, erO, gk, nk, num]
  | some bs =>
    have h0 : ¬ (k : Int) < 0 := by omega
    by_cases h : bs.length < k
    · have h' : (bs.length : Int) < k := by omega
      simp [tk, erO, gk, nk, h, h0, num]
    · have h' : ¬ (bs.length : Int) < k := by omega
      simp [tk, erO, gk, nk, h, h0]
theorem tkr_o (o : Option (List UInt8)) (k : Nat) : num (tkr (o.getD []) (erO o) k).1 = gk o k ∧ (tkr (o.getD []) (erO o) k).2.1 = (nk o k).getD [] ∧ (tkr (o.getD []) (erO o) k).2.2 = erO (nk o k) := by
  cases o with
  | none => simp [tkr, erO, gk, nk, num]
  | some bs =>
    have h0 : ¬ (k : Int) < 0 := by omega
    by_cases h : bs.length < k
    · have h' : (bs.length : Int) < k := by omega
      simp [tkr, erO, gk, nk, h, num]
    · have h' : ¬ (bs.length : Int) < k := by omega
      simp [tkr, erO, gk, nk, h]
theorem RW.step {G : List Nat} {k : Nat} {bs : List UInt8} {e : Int} (h2 : W.heap.size ≤ b) (h3 : ∀ k ∈ G, k < b) (h4 : Kept [] W w) (h5 : (o.getD []).length ≤ 1000000)
    (h : RdrT t w' b G bs e) (hk : Kept [b] w w') (hb : bs = (nk o k).getD []) (he : e = erO (nk o k)) : RW t W b (nk o k) w' := by
  subst hb he
  exact ⟨G, h, h2, h3, h4.trans hk (fun i hi => .inr (by simp at hi; omega)), Nat.le_trans (nk_le o k) h5⟩
end
section
variable {W w : World} {b : Nat} {o : Option (List UInt8)}
theorem DU8 (h : RWo W b o w) : Calls Tryz.prog 112 #[.pointer (some ⟨b, 0, none⟩)] w fun e w' => e = .returned (.int .i64 (gk o 1 : Nat)) ∧ RWo W b (nk o 1) w' ∧ Kept [b] w w' := by
  obtain ⟨G, h1, h2, h3, h4, h5⟩ := h
  have e := tk_o o 1
  refine (RU8_any w b G _ _ h1).mono ?_
  rintro en w' ⟨rfl, g1, g2⟩
  exact ⟨by rw [← e.1]; rfl, RW.step h2 h3 h4 h5 g1 g2 e.2.1 e.2.2, g2⟩
theorem DU16 (h : RWo W b o w) : Calls Tryz.prog 113 #[.pointer (some ⟨b, 0, none⟩)] w fun e w' => e = .returned (.int .i64 (gk o 2 : Nat)) ∧ RWo W b (nk o 2) w' ∧ Kept [b] w w' := by
  obtain ⟨G, h1, h2, h3, h4, h5⟩ := h
  have e := tk_o o 2
  refine (RU16_any w b G _ _ h1).mono ?_
  rintro en w' ⟨rfl, g1, g2⟩
  exact ⟨by rw [← e.1]; rfl, RW.step h2 h3 h4 h5 g1 g2 e.2.1 e.2.2, g2⟩
theorem DU32 (h : RWo W b o w) : Calls Tryz.prog 114 #[.pointer (some ⟨b, 0, none⟩)] w fun e w' => e = .returned (.int .u32 (gk o 4 : Nat)) ∧ RWo W b (nk o 4) w' ∧ Kept [b] w w' := by
  obtain ⟨G, h1, h2, h3, h4, h5⟩ := h
  have e := tk_o o 4
  refine (RU32_any w b G _ _ h1).mono ?_
  rintro en w' ⟨rfl, g1, g2⟩
  exact ⟨by rw [← e.1]; rfl, RW.step h2 h3 h4 h5 g1 g2 e.2.1 e.2.2, g2⟩
theorem DI64 (h : RWo W b o w) : Calls Tryz.prog 119 #[.pointer (some ⟨b, 0, none⟩)] w fun e w' => e = .returned (.int .i64 (wrap64 (gk o 8 : Nat))) ∧ RWo W b (nk o 8) w' ∧ Kept [b] w w' := by
  obtain ⟨G, h1, h2, h3, h4, h5⟩ := h
  have e := tk_o o 8
  refine (RI64_any w b G _ _ h1).mono ?_
  rintro en w' ⟨rfl, g1, g2⟩
  exact ⟨by rw [← e.1]; rfl, RW.step h2 h3 h4 h5 g1 g2 e.2.1 e.2.2, g2⟩
theorem DLeft {bs : List UInt8} (h : RWo W b (some bs) w) : Calls Tryz.prog 138 #[.pointer (some ⟨b, 0, none⟩)] w fun e w' => e = .returned (.int .i64 bs.length) ∧ w = w' := by
  obtain ⟨G, h1, h2, h3, h4, h5⟩ := h
  exact Left_any w b G _ _ h1
theorem DRaw (h : RWo W b o w) (k : Nat) : Calls Tryz.prog 111 #[.pointer (some ⟨b, 0, none⟩), .int .i64 (k : Int)] w fun e w' => ∃ v, e = .returned v ∧ RWo W b (nk o k) w' ∧ Kept [b] w w' := by
  obtain ⟨G, h1, h2, h3, h4, h5⟩ := h
  have e := tk_o o k
  refine (RRaw_any w b G _ _ k h1 (by omega)).mono ?_
  rintro en w' ⟨v, rfl, -, -, g1, g2⟩
  exact ⟨v, rfl, RW.step h2 h3 h4 h5 g1 g2 e.2.1 e.2.2, g2⟩
theorem DEnd (h : RWo W b o w) : Calls Tryz.prog 73 #[.pointer (some ⟨b, 0, none⟩)] w fun e w' => e = .returned (.int .i64 (endOf (o.getD []) (erO o))) ∧ w = w' := by
  obtain ⟨G, h1, h2, h3, h4, h5⟩ := h
  exact End_any w b G _ _ h1
theorem EU8 (h : RWr W b o w) : Calls Tryz.prog 83 #[.pointer (some ⟨b, 0, none⟩)] w fun e w' => e = .returned (.int .i64 (gk o 1 : Nat)) ∧ RWr W b (nk o 1) w' ∧ Kept [b] w w' := by
  obtain ⟨G, h1, h2, h3, h4, h5⟩ := h
  have e := tkr_o o 1
  refine (rRU8_any w b G _ _ h1 (by omega)).mono ?_
  rintro en w' ⟨rfl, g1, g2⟩
  exact ⟨by rw [← e.1]; rfl, RW.step h2 h3 h4 h5 g1 g2 e.2.1 e.2.2, g2⟩
theorem EU16 (h : RWr W b o w) : Calls Tryz.prog 80 #[.pointer (some ⟨b, 0, none⟩)] w fun e w' => e = .returned (.int .i64 (gk o 2 : Nat)) ∧ RWr W b (nk o 2) w' ∧ Kept [b] w w' := by
  obtain ⟨G, h1, h2, h3, h4, h5⟩ := h
  have e := tkr_o o 2
  refine (rRU16_any w b G _ _ h1 (by omega)).mono ?_
  rintro en w' ⟨rfl, g1, g2⟩
  exact ⟨by rw [← e.1]; rfl, RW.step h2 h3 h4 h5 g1 g2 e.2.1 e.2.2, g2⟩
theorem EU32 (h : RWr W b o w) : Calls Tryz.prog 81 #[.pointer (some ⟨b, 0, none⟩)] w fun e w' => e = .returned (.int .u32 (gk o 4 : Nat)) ∧ RWr W b (nk o 4) w' ∧ Kept [b] w w' := by
  obtain ⟨G, h1, h2, h3, h4, h5⟩ := h
  have e := tkr_o o 4
  refine (rRU32_any w b G _ _ h1 (by omega)).mono ?_
  rintro en w' ⟨rfl, g1, g2⟩
  exact ⟨by rw [← e.1]; rfl, RW.step h2 h3 h4 h5 g1 g2 e.2.1 e.2.2, g2⟩
theorem EI64 (h : RWr W b o w) : Calls Tryz.prog 82 #[.pointer (some ⟨b, 0, none⟩)] w fun e w' => e = .returned (.int .i64 (wrap64 (gk o 8 : Nat))) ∧ RWr W b (nk o 8) w' ∧ Kept [b] w w' := by
  obtain ⟨G, h1, h2, h3, h4, h5⟩ := h
  have e := tkr_o o 8
  refine (rRI64_any w b G _ _ h1 (by omega)).mono ?_
  rintro en w' ⟨rfl, g1, g2⟩
  exact ⟨by rw [← e.1]; rfl, RW.step h2 h3 h4 h5 g1 g2 e.2.1 e.2.2, g2⟩
theorem EEnd (h : RWr W b o w) : Calls Tryz.prog 84 #[.pointer (some ⟨b, 0, none⟩)] w fun e w' => e = .returned (.int .i64 (endOf (o.getD []) (erO o))) ∧ w = w' := by
  obtain ⟨G, h1, h2, h3, h4, h5⟩ := h
  exact rEnd_any w b G _ _ h1
end
theorem gad_nat (o : Option (List UInt8)) : ((UInt32.ofNat (gk o 4)).toNat : Nat) = gk o 4 := by
  have := gk_lt o 4
  rw [UInt32.toNat_ofNat', Nat.mod_eq_of_lt (by omega)]
set_option maxHeartbeats 3200000 in
theorem TRead_any {W w : World} {b : Nat} {bs : List UInt8} (h : RWo W b (some bs) w) :
    Calls Tryz.prog 117 #[.pointer (some ⟨b, 0, none⟩)] w fun e w' => e = .returned (.tuple #[.agg #[.int .u32 ((rdT (some bs)).1.src.toNat : Nat), .int .u32 ((rdT (some bs)).1.dst.toNat : Nat), .int .i64 (rdT (some bs)).1.proto, .int .i64 (rdT (some bs)).1.sport, .int .i64 (rdT (some bs)).1.dport], .bool (rdT (some bs)).2]) ∧ RWo W b (nk (some bs) 13) w' ∧ Kept [b] w w' := by
  have hk0 : Kept [b] w (w.alloc (.cells #[.int .u32 0, .int .u32 0, .int .i64 0, .int .i64 0, .int .i64 0] 39)) := (Kept.refl _ _).alloc _
  have B := Lib.hid (show Blk (w.alloc (.cells #[.int .u32 0, .int .u32 0, .int .i64 0, .int .i64 0, .int .i64 0] 39)) w.heap.size 39 #[.int .u32 0, .int .u32 0, .int .i64 0, .int .i64 0, .int .i64 0] from by (repeat (first | (apply Blk.new'; simp; done) | apply Blk.alloc | apply Blk.drew)))
  have R := Lib.hid (h.go ((Kept.refl [] w).alloc (.cells #[.int .u32 0, .int .u32 0, .int .i64 0, .int .i64 0, .int .i64 0] 39)))
  have hb := h.lt
  have K := Lib.hid hk0
  clear h hk0
  obtain ⟨n, hn⟩ : ∃ n, bs.length = n := ⟨_, rfl⟩
  by_cases h13 : n < 13
  · have hr : rdT (some bs) = (default, false) := by simp [rdT, nk, hn, h13]
    have hq := Lib.hid hr
    have hn := Lib.hid hn
    clear hr
    have q : decide ((n : Int) < 13) = true := by simp; omega
    go_enter Tryz.func117, Tryz.ntmps117
    go_wp2_with (first
      | (go_at_call 138
         go_must (refine (DLeft R.out).mono ?_)
         go_must (rintro e w' ⟨rfl, rfl⟩)
         go_must (rw [hn.out]))
      | (go_at_call 111
         go_must (refine (DRaw R.out 13).mono ?_)
         go_must (rintro e w1 ⟨v, rfl, h1, k1⟩)
         go_must (have B := Lib.hid (B.out.kept k1 (by simp; omega)))
         go_must (have R := Lib.hid h1)
         go_must (have K := Lib.hid (K.out.trans k1 (by simp)))
         go_must (clear h1 k1))
      | ((with_reducible show wpList _ _ _ ({ dst := none, op := Op.store 39 (.tmp 2) (.tmp 12), type := _, pos := _, after := _, guard := _ } :: _) _ _); refine wpList_put (t := 39) rfl 39 (.tmp 2) (.tmp 12) rfl _ (by rfl) (by rfl) (by exact B.out) (by rfl) (by kernel_rfl) (by simp [Value.oneCell']) ?_; intro w9 hb9 hk9; have Hb9 := Lib.hid hb9; have Hk9 := Lib.hid hk9; clear hb9 hk9))
    refine bodyPost_ret (results_cell1 (t := 39) Tryz.results117 (by rfl) Hb9.out _ Tryz.underlying39 rfl (by kernel_rfl)) rfl ?_
    rw [hq.out]
    exact ⟨rfl, R.out.other Hk9.out (by simp; omega), K.out.trans Hk9.out (fun i hi => .inr (by simp at hi; omega))⟩
  · obtain ⟨T, hT⟩ : ∃ T, tupOf (some bs) = T := ⟨_, rfl⟩
    have E1 := Lib.hid (show ((gk (some bs) 4 : Nat) : Int) = (T.src.toNat : Nat) by rw [← hT]; simp only [tupOf, gad_nat])
    have E2 := Lib.hid (show ((gk (nk (some bs) 4) 4 : Nat) : Int) = (T.dst.toNat : Nat) by rw [← hT]; simp only [tupOf, gad_nat])
    have E3 := Lib.hid (show ((gk (nk (nk (some bs) 4) 4) 1 : Nat) : Int) = T.proto by rw [← hT]; rfl)
    have E4 := Lib.hid (show ((gk (nk (nk (nk (some bs) 4) 4) 1) 2 : Nat) : Int) = T.sport by rw [← hT]; rfl)
    have E5 := Lib.hid (show ((gk (nk (nk (nk (nk (some bs) 4) 4) 1) 2) 2 : Nat) : Int) = T.dport by rw [← hT]; rfl)
    have hr : rdT (some bs) = if mayT T then (T, true) else (default, false) := by simp [rdT, nk, hn, h13, hT]
    have hq := Lib.hid hr
    have hN := Lib.hid (nkT_eq (some bs))
    have hn := Lib.hid hn
    clear hr hT
    have q : decide ((n : Int) < 13) = false := by simp; omega
    cases hm : mayT T
    all_goals
      go_enter Tryz.func117, Tryz.ntmps117
      go_wp2_with (first
        | (go_at_call 138
           go_must (refine (DLeft R.out).mono ?_)
           go_must (rintro e w' ⟨rfl, rfl⟩)
           go_must (rw [hn.out]))
        | (go_at_call 114
           go_must (refine (DU32 R.out).mono ?_)
           go_must (rintro e w1 ⟨rfl, h1, k1⟩)
           go_must (first | rw [E1.out] | rw [E2.out])
           go_must (have hb := h1.lt)
           go_must (have B := Lib.hid (B.out.kept k1 (by simp; omega)))
           go_must (have R := Lib.hid h1)
           go_must (have K := Lib.hid (K.out.trans k1 (by simp)))
           go_must (clear h1 k1))
        | (go_at_call 112
           go_must (refine (DU8 R.out).mono ?_)
           go_must (rintro e w3 ⟨rfl, h1, k1⟩)
           go_must (rw [E3.out])
           go_must (have hb := h1.lt)
           go_must (have B := Lib.hid (B.out.kept k1 (by simp; omega)))
           go_must (have hb3 := B.out.lt)
           go_must (have R := Lib.hid h1)
           go_must (have K := Lib.hid (K.out.trans k1 (by simp)))
           go_must (clear h1 k1))
        | (go_at_call 113
           first
             | (with_reducible refine (DU16 (R.out.go ((Kept.refl [] w3).alloc _))).mono ?_
                go_must (rintro e w4 ⟨rfl, h1, k1⟩)
                go_must (rw [E4.out])
                go_must (have X := Lib.hid ((show Blk (w3.alloc (.cells #[.int .u32 (T.src.toNat : Nat), .int .u32 (T.dst.toNat : Nat), .int .i64 T.proto, .int .i64 0, .int .i64 0] 39)) w3.heap.size 39 #[.int .u32 (T.src.toNat : Nat), .int .u32 (T.dst.toNat : Nat), .int .i64 T.proto, .int .i64 0, .int .i64 0] from by (repeat (first | (apply Blk.new'; simp; done) | apply Blk.alloc | apply Blk.drew))).kept k1 (by simp; omega)))
                go_must (have B := Lib.hid ((B.out.alloc _).kept k1 (by simp; omega)))
                go_must (have hb4 := h1.lt)
                go_must (have R := Lib.hid h1)
                go_must (have K := Lib.hid ((K.out.alloc _).trans k1 (by simp)))
                go_must (clear h1 k1))
             | (go_must (refine (DU16 R.out).mono ?_)
                go_must (rintro e w5 ⟨rfl, h1, k1⟩)
                go_must (rw [E5.out])
                go_must (have X := Lib.hid (X.out.kept k1 (by simp; omega)))
                go_must (have hcx := X.out.cell)
                go_must (have hfx := X.out.frozen)
                go_must (have B := Lib.hid (B.out.kept k1 (by simp; omega)))
                go_must (have hb5 := h1.lt)
                go_must (have R := Lib.hid h1)
                go_must (have K := Lib.hid (K.out.trans k1 (by simp)))
                go_must (clear h1 k1)))
        | (go_at_call 101
           go_must (refine (tMay_any _ T).mono ?_)
           go_must (rintro e w6 ⟨rfl, k1⟩)
           go_must (rw [hm])
           go_must (clear hcx hfx)
           go_must (have hk5 : Kept [w3.heap.size] w5 ((w5.setCell ⟨w3.heap.size, 3, none⟩ (.int .i64 T.sport)).setCell ⟨w3.heap.size, 4, none⟩ (.int .i64 T.dport)) := ((Kept.refl _ _).setCell (.inl (by simp)) _).setCell (.inl (by simp)) _)
           go_must (have X := Lib.hid (show Blk w6 w3.heap.size 39 #[.int .u32 (T.src.toNat : Nat), .int .u32 (T.dst.toNat : Nat), .int .i64 T.proto, .int .i64 T.sport, .int .i64 T.dport] from ((X.out.set 3 (.int .i64 T.sport)).set 4 (.int .i64 T.dport)).kept k1 (by simp)))
           go_must (have B := Lib.hid ((B.out.kept hk5 (by simp; omega)).kept k1 (by simp)))
           go_must (have R := Lib.hid ((R.out.other hk5 (by simp; omega)).go k1))
           go_must (have K := Lib.hid ((K.out.trans hk5 (fun i hi => .inr (by simp at hi; omega))).trans k1 (by simp)))
           go_must (have hcx := X.out.cell)
           go_must (clear k1 hk5))
        | ((with_reducible show wpList _ _ _ ({ dst := none, op := Op.store 39 (.tmp 2) (.tmp 33), type := _, pos := _, after := _, guard := _ } :: _) _ _); refine wpList_put (t := 39) rfl 39 (.tmp 2) (.tmp 33) rfl _ (by rfl) (by rfl) (by exact B.out) (by rfl) (by kernel_rfl) (by simp [Value.oneCell']) ?_; intro w9 hb9 hk9; have Hb9 := Lib.hid hb9; have Hk9 := Lib.hid hk9; clear hb9 hk9)
        | ((with_reducible show wpList _ _ _ ({ dst := none, op := Op.store 39 (.tmp 2) (.tmp 34), type := _, pos := _, after := _, guard := _ } :: _) _ _); refine wpList_put (t := 39) rfl 39 (.tmp 2) (.tmp 34) rfl _ (by rfl) (by rfl) (by exact B.out) (by rfl) (by kernel_rfl) (by simp [Value.oneCell']) ?_; intro w9 hb9 hk9; have Hb9 := Lib.hid hb9; have Hk9 := Lib.hid hk9; clear hb9 hk9))
      refine bodyPost_ret (results_cell1 (t := 39) Tryz.results117 (by rfl) Hb9.out _ Tryz.underlying39 rfl (by kernel_rfl)) rfl ?_
      rw [hq.out, hm]
      refine ⟨rfl, hN.out ▸ R.out.other Hk9.out (by simp; omega), K.out.trans Hk9.out (fun i hi => .inr (by simp at hi; omega))⟩
end
end Go.Proofs.YtkacghjglicjiaaGreat
