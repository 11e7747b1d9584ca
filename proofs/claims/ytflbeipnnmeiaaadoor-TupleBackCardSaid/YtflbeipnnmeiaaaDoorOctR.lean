
/-
  Contracts of octet.Reader's functions.
-/
import Derived.Test.YtflbeipnnmeiaaaDoorOctB
namespace Go.Proofs.YtflbeipnnmeiaaaDoor
open Go.RowKit
set_option linter.unusedVariables false
set_option maxRecDepth 100000

/-- v is a slice of bytes that lies in blocks of G and reads bs -/
def RdB (w : World) (G : List Nat) (v : Value) (bs : List UInt8) : Prop :=
  ∃ A m c, v = .slice A m c ∧ bs.length = m ∧ m ≤ c ∧ c ≤ maxLen ∧ Rd w A (u8s bs) ∧ (∀ k ∈ addrOf A, bs ≠ [] → k ∈ G) ∧ (A = none → m = 0 ∧ c = 0)
theorem u8s_ne {bs : List UInt8} (h : u8s bs ≠ []) : bs ≠ [] := by rintro rfl; exact h rfl
theorem u8s_nil {bs : List UInt8} (h : u8s bs = []) : bs = [] := by simpa [u8s] using h
theorem RdB.kept {w w' : World} {G S : List Nat} {v : Value} {bs : List UInt8} (h : RdB w G v bs) (hk : Kept S w w') (hd : ∀ k ∈ G, k ∉ S) : RdB w' G v bs := by
  obtain ⟨A, m, c, h1, h2, h3, h4, h5, h6, h7⟩ := h
  exact ⟨A, m, c, h1, h2, h3, h4, h5.kept hk (fun hne k hk' => hd k (h6 k hk' (u8s_ne hne))), h6, h7⟩
theorem RdB.rd {w : World} {G : List Nat} {A : Option Addr} {m c : Nat} {bs : List UInt8} (h : RdB w G (.slice A m c) bs) : Rd w A (u8s bs) := by
  obtain ⟨A', m', c', e, h2, h3, h4, h5, h6, h7⟩ := h
  injection e with e1 e2 e3
  subst e1 e2 e3
  exact h5
theorem RdB.len {w : World} {G : List Nat} {A : Option Addr} {m c : Nat} {bs : List UInt8} (h : RdB w G (.slice A m c) bs) : bs.length = m ∧ m ≤ c ∧ c ≤ maxLen ∧ (A = none → m = 0 ∧ c = 0) := by
  obtain ⟨A', m', c', e, h2, h3, h4, h5, h6, h7⟩ := h
  injection e with e1 e2 e3
  subst e1 e2 e3
  exact ⟨h2, h3, h4, h7⟩
theorem RdB.of_own {w : World} {v : Value} {bs : List UInt8} {n : Nat} (h : Own w 5 1 v n (u8s bs)) : RdB w (rowOf v) v bs := by
  obtain ⟨A, c, rfl, h1, h2, h3, h4, h5⟩ := h.slice
  exact ⟨A, n, c, rfl, by have := h.1; simp [u8s] at this; omega, h1, h2, h3, fun k hk _ => h4 ▸ hk, h5⟩
theorem RdB.mono {w : World} {G G' : List Nat} {v : Value} {bs : List UInt8} (h : RdB w G v bs) (hg : ∀ k ∈ G, k ∈ G') : RdB w G' v bs := by
  obtain ⟨A, m, c, h1, h2, h3, h4, h5, h6, h7⟩ := h
  exact ⟨A, m, c, h1, h2, h3, h4, h5, fun k hk hne => hg k (h6 k hk hne), h7⟩

/-- the reader (a struct of type t) at block b has bs left, which lie in blocks of G; its error is e -/
structure RdrT (t : TypeId) (w : World) (b : Nat) (G : List Nat) (bs : List UInt8) (e : Int) : Prop where
  ex : ∃ v, Blk w b t #[v, .int .i64 e] ∧ RdB w G v bs
  ne : b ∉ G
theorem RdrT.kept {t : TypeId} {w w' : World} {b : Nat} {G S : List Nat} {bs : List UInt8} {e : Int} (h : RdrT t w b G bs e) (hk : Kept S w w') (hb : b ∉ S) (hd : ∀ k ∈ G, k ∉ S) : RdrT t w' b G bs e := by
  obtain ⟨v, h1, h2⟩ := h.ex
  exact ⟨⟨v, h1.kept hk hb, h2.kept hk hd⟩, h.ne⟩
theorem RdrT.drewN {t : TypeId} {w : World} {b : Nat} {G : List Nat} {bs : List UInt8} {e : Int} (h : RdrT t w b G bs e) (n : Nat) : RdrT t (w.drewN n) b G bs e := h.kept (S := []) ((Kept.refl _ _).drewN n) (by simp) (by simp)
theorem RdrT.drew {t : TypeId} {w : World} {b : Nat} {G : List Nat} {bs : List UInt8} {e : Int} (h : RdrT t w b G bs e) : RdrT t w.drew b G bs e := h.kept (S := []) (Kept.refl _ _).drew (by simp) (by simp)
abbrev Rdr := RdrT 62

/-- what taking n bytes does: what comes, what is left, the error -/
def tk (bs : List UInt8) (e n : Int) : List UInt8 × List UInt8 × Int :=
  if e ≠ 0 ∨ n < 0 then ([], bs, e) else if bs.length < n then ([], [], 2) else (bs.take n.toNat, bs.drop n.toNat, e)

theorem Rd.take {w : World} {A : Option Addr} {bs : List UInt8} (h : Rd w A (u8s bs)) (n : Nat) : Rd w A (u8s (bs.take n)) := by
  intro hne
  have : u8s bs ≠ [] := by
    intro h0; rw [u8s_nil h0] at hne; simp [u8s] at hne
  obtain ⟨g, o, rfl, hc⟩ := h this
  refine ⟨g, o, rfl, fun j u hu => hc j u ?_⟩
  simp only [u8s, List.map_take, List.getElem?_take] at hu
  split at hu
  · exact hu
  · cases hu
theorem Rd.drop {w : World} {A : Option Addr} {bs : List UInt8} (h : Rd w A (u8s bs)) (n : Nat) : Rd w (A.map (·.add n)) (u8s (bs.drop n)) := by
  intro hne
  have : u8s bs ≠ [] := by
    intro h0; rw [u8s_nil h0] at hne; simp [u8s] at hne
  obtain ⟨g, o, rfl, hc⟩ := h this
  refine ⟨g, o + n, by simp [Addr.add_lit], fun j u hu => ?_⟩
  rw [Nat.add_assoc]
  refine hc (n + j) u ?_
  simpa [u8s, List.getElem?_drop] using hu

theorem ne_take {bs : List UInt8} {k : Nat} (h : bs.take k ≠ []) : bs ≠ [] := by rintro rfl; simp at h
theorem ne_drop {bs : List UInt8} {k : Nat} (h : bs.drop k ≠ []) : bs ≠ [] := by rintro rfl; simp at h
set_option maxHeartbeats 400000 in
theorem take_nil (w : World) (n : Int) : Calls Tryd.prog 52 #[.pointer none, .int .i64 n] w fun e w' => e = .returned (.slice none 0 0) ∧ w = w' := by
  go_enter Tryd.func52, Tryd.ntmps52
  go_wp2
  go_ret
  exact ⟨rfl, rfl⟩

set_option maxHeartbeats 400000 in
theorem take_any (w : World) (b : Nat) (G : List Nat) (bs : List UInt8) (e n : Int) (h : Rdr w b G bs e) :
    Calls Tryd.prog 52 #[.pointer (some ⟨b, 0, none⟩), .int .i64 n] w fun en w' => ∃ v, en = .returned v ∧ RdB w' G v (tk bs e n).1 ∧ Rdr w' b G (tk bs e n).2.1 (tk bs e n).2.2 ∧ Kept [b] w w' := by
  have H := Lib.hid h
  obtain ⟨v, h1, A, m, c, rfl, h2, h3, h4, h5, h6, h7⟩ := h.ex
  have hc0 := h1.cell 0
  have hc1 := h1.cell 1
  have hf0 := h1.frozen 0
  have hf1 := h1.frozen 1
  simp only [List.getElem?_toArray, List.getElem?_cons_zero, List.getElem?_cons_succ] at hc0 hc1
  have H1 := Lib.hid h1
  have H2 := Lib.hid h2
  have H5 := Lib.hid h5
  have H6 := Lib.hid h6
  have H7 := Lib.hid h7
  unfold maxLen at h4
  clear h h1 h2 h5 h6 h7
  by_cases he : e = 0
  · subst he
    by_cases hn : n < 0
    · have ht : tk bs 0 n = ([], bs, 0) := by simp [tk, hn]
      have Ht := Lib.hid ht
      clear ht
      go_enter Tryd.func52, Tryd.ntmps52
      go_wp2
      go_ret
      rw [Ht.out]
      exact ⟨_, rfl, ⟨none, 0, 0, rfl, rfl, by omega, by unfold maxLen; omega, Rd.nil _ _, by simp [addrOf], by simp⟩, H.out, Kept.refl _ _⟩
    · by_cases hlt : (m : Int) < n
      · have ht : tk bs 0 n = ([], [], 2) := by simp [tk, hn, H2.out, hlt]
        have Ht := Lib.hid ht
        clear ht
        go_enter Tryd.func52, Tryd.ntmps52
        go_wp2
        go_ret
        rw [Ht.out]
        refine ⟨_, rfl, ⟨none, 0, 0, rfl, rfl, by omega, by unfold maxLen; omega, Rd.nil _ _, by simp [addrOf], by simp⟩, ⟨⟨_, (H1.out.set 1 _).set 0 _, ⟨none, 0, 0, rfl, rfl, by omega, by unfold maxLen; omega, Rd.nil _ _, by simp [addrOf], by simp⟩⟩, H.out.ne⟩, ?_⟩
        exact ((Kept.refl _ _).setCell (.inl (by simp)) _).setCell (.inl (by simp)) _
      · obtain ⟨k, rfl⟩ : ∃ k : Nat, n = k := ⟨n.toNat, by omega⟩
        have ht : tk bs 0 k = (bs.take k, bs.drop k, 0) := by simp [tk, hn, H2.out, hlt]
        have Ht := Lib.hid ht
        clear ht
        have hkm : k ≤ m := by omega
        go_enter Tryd.func52, Tryd.ntmps52
        have hmx : c ≤ maxLen := by unfold maxLen; omega
        go_wp2
        all_goals go_ret
        all_goals rw [Ht.out]
        all_goals refine ⟨_, rfl, ⟨A, k, _, rfl, by rw [List.length_take, H2.out]; omega, by omega, by omega, Rd.kept (H5.out.take k) ((Kept.refl [b] w).setCell (.inl (by simp)) _) (fun hne i hi => ?_), fun i hi hne => H6.out i hi (ne_take hne), fun hA => by have := H7.out hA; omega⟩, ⟨⟨_, H1.out.set 0 _, ?_⟩, H.out.ne⟩, (Kept.refl _ _).setCell (.inl (by simp)) _⟩
        · simp; rintro rfl; exact H.out.ne (H6.out _ hi (ne_take (u8s_ne hne)))
        · have hk : k = m := by omega
          have hd : bs.drop k = [] := by rw [List.drop_eq_nil_iff, H2.out]; omega
          rw [hd]
          exact ⟨A, _, _, rfl, by simp; omega, by omega, by omega, Rd.nil _ _, fun _ _ h => absurd rfl h, fun hA => by have := H7.out hA; omega⟩
        · simp; rintro rfl; exact H.out.ne (H6.out _ hi (ne_take (u8s_ne hne)))
        · refine ⟨_, _, _, rfl, by rw [List.length_drop, H2.out], by omega, by omega, Rd.kept (H5.out.drop k) ((Kept.refl [b] w).setCell (.inl (by simp)) _) (fun hne i hi => ?_), ?_, ?_⟩
          · simp; rintro rfl
            refine H.out.ne (H6.out _ ?_ (ne_drop (u8s_ne hne)))
            cases A <;> simp_all [addrOf, Addr.add]
            split at hi <;> simp_all
          · intro i hi hne
            refine H6.out _ ?_ (ne_drop hne)
            cases A <;> simp_all [addrOf, Addr.add]
            split at hi <;> simp_all
          · intro hA
            have : A = none := by cases A <;> simp_all
            have := H7.out this; omega
  · have ht : tk bs e n = ([], bs, e) := by simp [tk, he]
    have Ht := Lib.hid ht
    clear ht
    have hb : (e == 0) = false := by simpa using he
    go_enter Tryd.func52, Tryd.ntmps52
    go_wp2
    go_ret
    rw [Ht.out]
    exact ⟨_, rfl, ⟨none, 0, 0, rfl, rfl, by omega, by unfold maxLen; omega, Rd.nil _ _, by simp [addrOf], by simp⟩, H.out, Kept.refl _ _⟩
end Go.Proofs.YtflbeipnnmeiaaaDoor
