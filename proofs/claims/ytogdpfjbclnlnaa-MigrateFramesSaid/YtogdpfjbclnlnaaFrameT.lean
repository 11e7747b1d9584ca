
/-
  The contract of frame.Take.
-/
import Derived.Test.YtogdpfjbclnlnaaFrameS
import Derived.Test.YtogdpfjbclnlnaaOctS
namespace Go.Proofs.Ytogdpfjbclnlnaa
open Go.RowKit
set_option linter.unusedVariables false

/-- what bytes begin with, taken apart -/
def takeP (m4 k1 v1 n2 c4 s4 rest : List UInt8) : FrameD × Nat × Int :=
  if m4 ≠ [103, 111, 105, 116] then (default, 0, 3)
  else if num c4 ≠ crc (m4 ++ (k1 ++ (v1 ++ n2))) then (default, 0, 5)
  else if 4096 < num n2 then (default, 0, 4)
  else if rest.length < num n2 then (default, 0, 2)
  else if num s4 ≠ crc (rest.take (num n2)) then (default, 0, 5)
  else (⟨(num k1 : Nat), (num v1 : Nat), rest.take (num n2)⟩, 16 + num n2, 0)
def takeF (bs : List UInt8) : FrameD × Nat × Int :=
  if bs.length < 16 then (default, 0, 2)
  else takeP (bs.take 4) ((bs.drop 4).take 1) ((bs.drop 5).take 1) ((bs.drop 6).take 2) ((bs.drop 8).take 4) ((bs.drop 12).take 4) (bs.drop 16)
theorem take_cut (bs : List UInt8) (a b : Nat) : bs.drop a = (bs.drop a).take b ++ bs.drop (a + b) := by
  rw [← List.drop_drop, List.take_append_drop]
theorem take_parts (bs : List UInt8) (h : 16 ≤ bs.length) : ∃ m4 k1 v1 n2 c4 s4 rest : List UInt8, bs = m4 ++ (k1 ++ (v1 ++ (n2 ++ (c4 ++ (s4 ++ rest))))) ∧ m4.length = 4 ∧ k1.length = 1 ∧ v1.length = 1 ∧ n2.length = 2 ∧ c4.length = 4 ∧ s4.length = 4 ∧ takeF bs = takeP m4 k1 v1 n2 c4 s4 rest := by
  refine ⟨bs.take 4, (bs.drop 4).take 1, (bs.drop 5).take 1, (bs.drop 6).take 2, (bs.drop 8).take 4, (bs.drop 12).take 4, bs.drop 16, ?_, ?_, ?_, ?_, ?_, ?_, ?_, ?_⟩
  · rw [← take_cut bs 12 4, ← take_cut bs 8 4, ← take_cut bs 6 2, ← take_cut bs 5 1, ← take_cut bs 4 1, List.take_append_drop]
  all_goals first | (simp [takeF]; omega) | (simp; omega)
theorem takeF_parts (m4 k1 v1 n2 c4 s4 rest : List UInt8) (h1 : m4.length = 4) (h2 : k1.length = 1) (h3 : v1.length = 1) (h4 : n2.length = 2) (h5 : c4.length = 4) (h6 : s4.length = 4) :
    takeF (m4 ++ (k1 ++ (v1 ++ (n2 ++ (c4 ++ (s4 ++ rest)))))) = takeP m4 k1 v1 n2 c4 s4 rest := by
  obtain ⟨a1, a2, a3, a4, a5, a6, a7, e, l1, l2, l3, l4, l5, l6, ht⟩ := take_parts (m4 ++ (k1 ++ (v1 ++ (n2 ++ (c4 ++ (s4 ++ rest)))))) (by simp; omega)
  rw [ht]
  obtain ⟨q1, e1⟩ := List.append_inj e (by omega)
  obtain ⟨q2, e2⟩ := List.append_inj e1 (by omega)
  obtain ⟨q3, e3⟩ := List.append_inj e2 (by omega)
  obtain ⟨q4, e4⟩ := List.append_inj e3 (by omega)
  obtain ⟨q5, e5⟩ := List.append_inj e4 (by omega)
  obtain ⟨q6, q7⟩ := List.append_inj e5 (by omega)
  rw [q1, q2, q3, q4, q5, q6, q7]

/-- a reader of our own -/
def RV (W : World) (b : Nat) (bs : List UInt8) (w : World) : Prop := ∃ G, Rdr w b G bs 0 ∧ W.heap.size ≤ b ∧ (∀ k ∈ G, W.heap.size ≤ k ∧ k < b) ∧ Kept [] W w
theorem RV.keptW {W w : World} {b : Nat} {bs : List UInt8} (h : RV W b bs w) : Kept [] W w := by obtain ⟨_, _, _, _, h4⟩ := h; exact h4
theorem tk_app (cs rest : List UInt8) (n : Int) (h : (cs.length : Int) = n) : tk (cs ++ rest) 0 n = (cs, rest, 0) := by
  subst h
  have : ¬ ((cs.length : Int) < 0) := by omega
  have h2 : ¬ (((cs ++ rest).length : Int) < cs.length) := by simp; omega
  simp only [tk, ne_eq, not_true_eq_false, false_or, if_neg this, if_neg h2]
  simp
theorem RV.step {W w w' : World} {b : Nat} {G : List Nat} {cs rest : List UInt8} {n : Int} (hn : (cs.length : Int) = n) (hb : W.heap.size ≤ b) (hG : ∀ k ∈ G, W.heap.size ≤ k ∧ k < b) (hk : Kept [] W w)
    (h : Rdr w' b G (tk (cs ++ rest) 0 n).2.1 (tk (cs ++ rest) 0 n).2.2) (hk' : Kept [b] w w') : RV W b rest w' := by
  rw [tk_app cs rest n hn] at h
  exact ⟨G, h, hb, hG, hk.trans hk' (fun i hi => .inr (by simp at hi; omega))⟩
theorem XU8 {W w : World} {b : Nat} {cs rest : List UInt8} (h : RV W b (cs ++ rest) w) (hc : cs.length = 1) :
    Calls Try.prog 90 #[.pointer (some ⟨b, 0, none⟩)] w fun en w' => en = .returned (.int .i64 (num cs : Nat)) ∧ RV W b rest w' := by
  obtain ⟨G, h1, h2, h3, h4⟩ := h
  refine (RU8_any w b G _ 0 h1).mono ?_
  rintro en w' ⟨rfl, g1, g2⟩
  exact ⟨by rw [tk_app cs rest 1 (by omega)], RV.step (by omega) h2 h3 h4 g1 g2⟩
theorem XU16 {W w : World} {b : Nat} {cs rest : List UInt8} (h : RV W b (cs ++ rest) w) (hc : cs.length = 2) :
    Calls Try.prog 77 #[.pointer (some ⟨b, 0, none⟩)] w fun en w' => en = .returned (.int .i64 (num cs : Nat)) ∧ RV W b rest w' := by
  obtain ⟨G, h1, h2, h3, h4⟩ := h
  refine (RU16_any w b G _ 0 h1).mono ?_
  rintro en w' ⟨rfl, g1, g2⟩
  exact ⟨by rw [tk_app cs rest 2 (by omega)], RV.step (by omega) h2 h3 h4 g1 g2⟩
theorem XU32 {W w : World} {b : Nat} {cs rest : List UInt8} (h : RV W b (cs ++ rest) w) (hc : cs.length = 4) :
    Calls Try.prog 80 #[.pointer (some ⟨b, 0, none⟩)] w fun en w' => en = .returned (.int .u32 (num cs : Nat)) ∧ RV W b rest w' := by
  obtain ⟨G, h1, h2, h3, h4⟩ := h
  refine (RU32_any w b G _ 0 h1).mono ?_
  rintro en w' ⟨rfl, g1, g2⟩
  exact ⟨by rw [tk_app cs rest 4 (by omega)], RV.step (by omega) h2 h3 h4 g1 g2⟩
theorem XRaw {W w : World} {b : Nat} {cs rest : List UInt8} (h : RV W b (cs ++ rest) w) (n : Int) (hc : (cs.length : Int) = n) (hl : (cs ++ rest).length ≤ 140737488355328) :
    Calls Try.prog 89 #[.pointer (some ⟨b, 0, none⟩), .int .i64 n] w fun en w' => ∃ A m c, en = .returned (.slice A m c) ∧ RdB w' (rowOf (.slice A m c)) (.slice A m c) cs ∧ RV W b rest w' := by
  obtain ⟨G, h1, h2, h3, h4⟩ := h
  refine (RRaw_any w b G _ 0 n h1 hl).mono ?_
  rintro en w' ⟨v, rfl, g1, g2, g3, g4⟩
  rw [tk_app cs rest n hc] at g1
  obtain ⟨A, m, c, rfl⟩ := g1.form'
  exact ⟨A, m, c, rfl, RdB.of_own g1, RV.step hc h2 h3 h4 g3 g4⟩
theorem XNew (w : World) {G : List Nat} {A : Option Addr} {m c : Nat} {bs : List UInt8} (h : RdB w G (.slice A m c) bs) (hl : m ≤ 140737488355328) :
    Calls Try.prog 60 #[.slice A m c] w fun e w' => ∃ b, e = .returned (.pointer (some ⟨b, 0, none⟩)) ∧ RV w b bs w' := by
  have hh := h.len
  refine (NewReader_any w A m c bs h.rd hh.1 hh.2.2.2 hl).mono ?_
  rintro e w' ⟨b, G', rfl, g1, g2, g3, g4⟩
  exact ⟨b, rfl, G', g1, g3, g4, g2⟩
theorem mem_addr {A : Option Addr} {k i : Nat} (h : i ∈ addrOf (A.map (·.add k))) : i ∈ addrOf A := by
  cases A with
  | none => simp [addrOf] at h
  | some a =>
    simp only [Option.map_some, addrOf, Addr.add] at h ⊢
    split at h <;> simpa using h
theorem RdB.upto {w : World} {G : List Nat} {A : Option Addr} {m c : Nat} {bs : List UInt8} (h : RdB w G (.slice A m c) bs) (k : Nat) (hk : k ≤ m) : RdB w G (.slice A k c) (bs.take k) := by
  obtain ⟨A', m', c', e, h2, h3, h4, h5, h6, h7⟩ := h
  injection e with e1 e2 e3
  subst e1 e2 e3
  exact ⟨A, k, c, rfl, by rw [List.length_take]; omega, by omega, h4, h5.take k, fun i hi hne => h6 i hi (ne_take hne), fun hA => by have := h7 hA; omega⟩
theorem RdB.drop {w : World} {G : List Nat} {A : Option Addr} {m c : Nat} {bs : List UInt8} (h : RdB w G (.slice A m c) bs) (k : Nat) (hk : k ≤ m) : RdB w G (.slice (A.map (·.add k)) (m - k) (c - k)) (bs.drop k) := by
  obtain ⟨A', m', c', e, h2, h3, h4, h5, h6, h7⟩ := h
  injection e with e1 e2 e3
  subst e1 e2 e3
  exact ⟨_, _, _, rfl, by rw [List.length_drop]; omega, by omega, by omega, h5.drop k, fun i hi hne => h6 i (mem_addr hi) (ne_drop hne), fun hA => by have := h7 (by simpa using hA); omega⟩

end Go.Proofs.Ytogdpfjbclnlnaa
