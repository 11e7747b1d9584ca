/-
  The document's split and ParseAddr at any text. (GensForms)
-/
import Derived.Test.YtgndijdhmkphaaaGreatDoorGfF
namespace Go.Proofs.YtgndijdhmkphaaaGreatDoor
set_option linter.unusedVariables false
section
open Go.RowKit Go.ChangeShapes Go.WideShapes Go.ChangeAt Go.Deep
set_option maxRecDepth 100000
def SplitI (c : UInt8) (s : List UInt8) (k f : Nat) (D : List (List UInt8)) : Prop :=
  (k ≤ s.length ∧ f ≤ k ∧ pieces c s = D ++ pieces c (s.drop f) ∧ c ∉ (s.drop f).take (k - f)) ∨ (k = s.length + 1 ∧ f ≤ k ∧ pieces c s = D)
theorem SplitI.start (c : UInt8) (s : List UInt8) : SplitI c s 0 0 [] := .inl ⟨by omega, by omega, by simp, by simp⟩
theorem SplitI.cut {c : UInt8} {s : List UInt8} {k f : Nat} {D : List (List UInt8)} (h : SplitI c s k f D) (hk : s[k]? = some c) : SplitI c s (k + 1) (k + 1) (D ++ [(s.drop f).take (k - f)]) := by
  have hlt := (List.getElem?_eq_some_iff.1 hk).1
  rcases h with ⟨h1, h2, h3, h4⟩ | ⟨h1, h2, h3⟩
  · refine .inl ⟨by omega, by omega, ?_, by simp⟩
    have e : s.drop f = (s.drop f).take (k - f) ++ c :: s.drop (k + 1) := by
      have hx : (s.drop f)[k - f]? = some c := by rw [List.getElem?_drop, show f + (k - f) = k by omega]; exact hk
      obtain ⟨hx1, hx2⟩ := List.getElem?_eq_some_iff.1 hx
      have := (List.take_append_drop (k - f) (s.drop f)).symm
      rw [List.drop_drop, show f + (k - f) = k by omega] at this
      rw [this]
      congr 1
      · rw [List.take_append_of_le_length (by rw [List.length_take, List.length_drop]; omega), List.take_take, Nat.min_self]
      · obtain ⟨_, hk2⟩ := List.getElem?_eq_some_iff.1 hk
        rw [← hk2, List.getElem_cons_drop]
    rw [h3]
    conv => lhs; rw [e, pieces_at h4]
    simp
  · omega
theorem SplitI.last {c : UInt8} {s : List UInt8} {f : Nat} {D : List (List UInt8)} (h : SplitI c s s.length f D) : SplitI c s (s.length + 1) (s.length + 1) (D ++ [(s.drop f).take (s.length - f)]) := by
  rcases h with ⟨h1, h2, h3, h4⟩ | ⟨h1, h2, h3⟩
  · refine .inr ⟨rfl, by omega, ?_⟩
    rw [List.take_of_length_le (by rw [List.length_drop]; exact Nat.le_refl _)] at h4 ⊢
    rw [h3, pieces_no h4]
  · omega
theorem SplitI.on {c d : UInt8} {s : List UInt8} {k f : Nat} {D : List (List UInt8)} (h : SplitI c s k f D) (hk : s[k]? = some d) (hd : ¬ d = c) : SplitI c s (k + 1) f D := by
  have hlt := (List.getElem?_eq_some_iff.1 hk).1
  rcases h with ⟨h1, h2, h3, h4⟩ | ⟨h1, h2, h3⟩
  · refine .inl ⟨by omega, by omega, h3, ?_⟩
    have hx : (s.drop f)[k - f]? = some d := by rw [List.getElem?_drop, show f + (k - f) = k by omega]; exact hk
    rw [show k + 1 - f = (k - f) + 1 by omega, List.take_add_one, hx]
    simp only [Option.toList, List.mem_append, List.mem_singleton, not_or]
    exact ⟨h4, fun e => hd e.symm⟩
  · omega
theorem SplitI.le {c : UInt8} {s : List UInt8} {k f : Nat} {D : List (List UInt8)} (h : SplitI c s k f D) : f ≤ k ∧ k ≤ s.length + 1 := by
  rcases h with h | h
  · exact ⟨h.2.1, by omega⟩
  · exact ⟨h.2.1, by omega⟩
theorem SplitI.done {c : UInt8} {s : List UInt8} {f : Nat} {D : List (List UInt8)} (h : SplitI c s (s.length + 1) f D) : pieces c s = D := by
  rcases h with h | h
  · have := h.1; omega
  · exact h.2.2
abbrev strs (D : List (List UInt8)) : List Value := D.map fun x => .string (strOf x)
theorem strs_snoc (D : List (List UInt8)) (x : List UInt8) : strs (D ++ [x]) = strs D ++ [.string (strOf x)] := by simp [strs]
set_option maxHeartbeats 3200000 in
theorem rSplit_any (w : World) (s : List UInt8) (c : UInt8) (hl : s.length ≤ 100000) :
    Calls Tryz.prog 51 #[.string (strOf s), .int .u8 (c.toNat : Nat)] w fun e w' => ∃ v, e = .returned v ∧ New w 9 1 v (pieces c s).length (strs (pieces c s)) w' := by
  have HG := Lib.hid (strOf_at s)
  have hz := strOf_size s
  have HX := Lib.hid (strOf_extract s)
  obtain ⟨u, hu⟩ : ∃ u, strOf s = u := ⟨_, rfl⟩
  rw [hu] at HG hz HX ⊢
  have hm : u.size ≤ 100000 := by omega
  have HZ := Lib.hid hz
  clear hu hz hl
  go_enter Tryz.func51, Tryz.ntmps51
  go_wp2
  go_loopg [5, 6, 7] (u.size + 1) (fun g v fr i wr => ∃ (k f : Nat) (D : List (List UInt8)), g = u.size + 1 - k ∧ i = .int .i64 k ∧ fr = .int .i64 f ∧ Hid (SplitI c s k f D ∧ D.length ≤ k) ∧ New w 9 1 v D.length (strs D) wr)
  case atStart => exact ⟨0, 0, [], by omega, rfl, rfl, Lib.hid ⟨SplitI.start c s, by simp⟩, New.nil _ _ _⟩
  case round =>
    obtain ⟨k, f, D, rfl, rfl, rfl, hI, hN⟩ := hrel
    have N := Lib.hid hN
    clear hN
    have hle := hI.out.1.le
    have hDl := hI.out.2
    rw [← HZ.out] at hle
    obtain ⟨hfk, hk1⟩ := hle
    obtain ⟨nD, hnD⟩ : ∃ n, D.length = n := ⟨_, rfl⟩
    have HND := Lib.hid hnD
    rw [hnD] at N hDl
    clear hnD
    have hway : (k < u.size) ∨ (k = u.size) ∨ (k = u.size + 1) := by omega
    rcases hway with hlt | hlt | hlt
    · have hg := HG.out k hlt
      have i1 : (k : Int) ≤ (u.size : Int) := by omega
      have i2 : ((k : Int) == (u.size : Int)) = false := by rw [beq_eq_false_iff_ne]; omega
      have i3 : (f : Int) ≤ (k : Int) := by omega
      obtain ⟨d, hd⟩ : ∃ d, u[k] = d := ⟨_, rfl⟩
      rw [hd] at hg
      have HGK := Lib.hid hg
      clear hg
      by_cases hdc : d = c
      · subst hdc
        have HS := Lib.hid (hI.out.1.cut HGK.out)
        have HX1 := Lib.hid (HX.out f k)
        go_wp2_with (first
          | (at_builtin
             go_must (refine wpList_app _ rfl (.tmp 25) (.tmp 30) 43 rfl elem_str (by rfl) (N.out.1.alloc _) (by rfl) (Rd.one _ _ _) rfl (by simp [Value.oneCell']) (by unfold maxLen; omega) (by omega) ?_)
             go_must (intro v2 w2 ho hk2 hr)
             go_must (have N2 := Lib.hid (show New w 9 1 v2 (D ++ [(s.drop f).take (k - f)]).length (strs (D ++ [(s.drop f).take (k - f)])) w2 from ⟨by
                 have h9 := ho
                 rw [HX1.out] at h9
                 rw [List.length_append, HND.out, strs_snoc]
                 exact h9, (N.out.2.1.alloc _).trans hk2 (fun i hi => .inr (N.out.2.2 i hi)), fun i hi => (hr i hi).elim (fun h => N.out.2.2 i h) (fun h => by have := N.out.2.1.size; simp at h; omega)⟩))
             go_must (clear ho hk2 hr)))
        go_roundg (u.size + 1 - (k + 1))
        case measure => omega
        case rel => exact ⟨k + 1, k + 1, _, rfl, by go_num, by go_num, Lib.hid ⟨HS.out, by rw [List.length_append, HND.out]; simp; omega⟩, N2.out⟩
      · have e1 : (((d.toNat : Nat) : Int) == ((c.toNat : Nat) : Int)) = false := by
          rw [beq_eq_false_iff_ne]; intro h; exact hdc (UInt8.toNat_inj.1 (by omega))
        have HS := Lib.hid (hI.out.1.on HGK.out hdc)
        clear hdc
        go_wp2
        go_roundg (u.size + 1 - (k + 1))
        case measure => omega
        case rel => exact ⟨k + 1, f, D, rfl, by go_num, rfl, Lib.hid ⟨HS.out, by rw [HND.out]; omega⟩, by rw [HND.out]; exact N.out⟩
    · subst hlt
      have HS := Lib.hid (show SplitI c s (u.size + 1) (u.size + 1) (D ++ [(s.drop f).take (u.size - f)]) from by
        have h1 := hI.out.1
        rw [HZ.out] at h1 ⊢
        exact h1.last)
      have HX1 := Lib.hid (HX.out f u.size)
      have i3 : (f : Int) ≤ (u.size : Int) := by omega
      go_wp2_with (first
        | (at_builtin
           go_must (refine wpList_app _ rfl (.tmp 25) (.tmp 30) 43 rfl elem_str (by rfl) (N.out.1.alloc _) (by rfl) (Rd.one _ _ _) rfl (by simp [Value.oneCell']) (by unfold maxLen; omega) (by omega) ?_)
           go_must (intro v2 w2 ho hk2 hr)
           go_must (have N2 := Lib.hid (show New w 9 1 v2 (D ++ [(s.drop f).take (u.size - f)]).length (strs (D ++ [(s.drop f).take (u.size - f)])) w2 from ⟨by
               have h9 := ho
               rw [HX1.out] at h9
               rw [List.length_append, HND.out, strs_snoc]
               exact h9, (N.out.2.1.alloc _).trans hk2 (fun i hi => .inr (N.out.2.2 i hi)), fun i hi => (hr i hi).elim (fun h => N.out.2.2 i h) (fun h => by have := N.out.2.1.size; simp at h; omega)⟩))
           go_must (clear ho hk2 hr)))
      go_roundg (u.size + 1 - (u.size + 1))
      case measure => omega
      case rel => exact ⟨u.size + 1, u.size + 1, _, rfl, by go_num, by go_num, Lib.hid ⟨HS.out, by rw [List.length_append, HND.out]; simp; omega⟩, N2.out⟩
    · have i1 : ¬ (k : Int) ≤ (u.size : Int) := by omega
      have HD := Lib.hid (show pieces c s = D from by
        have h1 := hI.out.1
        rw [hlt, HZ.out] at h1
        exact h1.done)
      clear hlt
      go_wp2
      go_ret
      exact ⟨_, rfl, by rw [HD.out, HND.out]; exact N.out⟩
end
end Go.Proofs.YtgndijdhmkphaaaGreatDoor
