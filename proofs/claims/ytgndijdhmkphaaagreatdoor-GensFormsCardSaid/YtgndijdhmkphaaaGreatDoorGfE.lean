/-
  The document's cut. (GensForms)
-/
import Derived.Test.YtgndijdhmkphaaaGreatDoorGfC
namespace Go.Proofs.YtgndijdhmkphaaaGreatDoor
set_option linter.unusedVariables false
section
open Go.RowKit Go.ChangeShapes Go.WideShapes Go.ChangeAt Go.Deep
set_option maxRecDepth 100000
theorem strOf_extract (s : List UInt8) (a b : Nat) : (strOf s).extract a b = strOf ((s.drop a).take (b - a)) := by
  unfold strOf; apply ByteArray.ext; rw [ByteArray.data_extract]; apply Array.toList_inj.1; simp [List.extract_eq_take_drop]
theorem strOf_at (s : List UInt8) : ∀ (i : Nat) (h : i < (strOf s).size), s[i]? = some ((strOf s)[i]) := fun i h => by
  have h2 : i < s.length := by simpa [strOf_size] using h
  rw [List.getElem?_eq_getElem h2]; rfl
theorem cut_here {s : List UInt8} {c : UInt8} {k : Nat} (h : c ∉ s.take k) (hk : s[k]? = some c) : Lib.cut s [c] = (s.take k, s.drop (k + 1), true) := by
  have hlt := (List.getElem?_eq_some_iff.1 hk)
  obtain ⟨hl, he⟩ := hlt
  have e : s = s.take k ++ c :: s.drop (k + 1) := by
    rw [← he, List.getElem_cons_drop, List.take_append_drop]
  have h2 := cut_at c (s.take k) (s.drop (k + 1)) h
  rw [← e] at h2
  exact h2
set_option maxHeartbeats 1600000 in
theorem rCut_any (w : World) (s : List UInt8) (c : UInt8) (hl : s.length ≤ 100000) :
    Calls Tryz.prog 28 #[.string (strOf s), .int .u8 (c.toNat : Nat)] w fun e w' => e = .returned (.tuple #[.string (strOf (Lib.cut s [c]).1), .string (strOf (Lib.cut s [c]).2.1), .bool (Lib.cut s [c]).2.2]) ∧ Kept [] w w' := by
  have HG := Lib.hid (strOf_at s)
  have hz := strOf_size s
  have HX := Lib.hid (strOf_extract s)
  obtain ⟨u, hu⟩ : ∃ u, strOf s = u := ⟨_, rfl⟩
  have HU := Lib.hid hu
  rw [hu] at HG hz HX ⊢
  have hm : u.size ≤ 100000 := by omega
  have HZ := Lib.hid hz
  clear hu hz hl
  go_enter Tryz.func28, Tryz.ntmps28
  go_wp2
  go_loopg [10] u.size (fun g i wr => ∃ k : Nat, k ≤ u.size ∧ g = u.size - k ∧ i = .int .i64 k ∧ Hid (c ∉ s.take k) ∧ Kept [] w wr)
  case atStart => exact ⟨0, by omega, by omega, rfl, Lib.hid (by simp), Kept.refl _ _⟩
  case round =>
    obtain ⟨k, hk, rfl, rfl, hno, hkw⟩ := hrel
    have K := Lib.hid hkw
    clear hkw
    by_cases hlt : k < u.size
    · have hg := HG.out k hlt
      have i1 : (k : Int) < (u.size : Int) := by omega
      obtain ⟨d, hd⟩ : ∃ d, u[k] = d := ⟨_, rfl⟩
      rw [hd] at hg
      have HGK := Lib.hid hg
      clear hg
      by_cases hdc : d = c
      · subst hdc
        have HR := Lib.hid (cut_here hno.out HGK.out)
        have hx1 := (HX.out 0 k).trans (by rw [List.drop_zero, Nat.sub_zero])
        have hx2 := (HX.out (k + 1) u.size).trans (by rw [HZ.out, List.take_of_length_le (by rw [List.length_drop]; exact Nat.le_refl _)])
        have HX1 := Lib.hid hx1
        have HX2 := Lib.hid hx2
        clear hx1 hx2
        go_wp2
        go_region
        go_wp2
        go_ret3
        exact ⟨by rw [HR.out]; show _ = Ending.returned (.tuple #[.string (strOf (s.take k)), .string (strOf (s.drop (k + 1))), .bool true]); rw [← HX1.out, ← HX2.out]; rfl, K.out.drew⟩
      · have e1 : (((d.toNat : Nat) : Int) == ((c.toNat : Nat) : Int)) = false := by
          rw [beq_eq_false_iff_ne]; intro h; exact hdc (UInt8.toNat_inj.1 (by omega))
        have HS := Lib.hid (show c ∉ s.take (k + 1) from by
          rw [List.take_add_one, HGK.out]
          simp only [Option.toList, List.mem_append, List.mem_singleton, not_or]
          exact ⟨hno.out, fun e => hdc e.symm⟩)
        clear hdc
        go_wp2
        go_roundg (u.size - (k + 1))
        case measure => omega
        case rel => exact ⟨k + 1, by omega, rfl, by go_num, Lib.hid HS.out, K.out⟩
    · obtain rfl : k = u.size := by omega
      have HR := Lib.hid (show Lib.cut s [c] = (s, [], false) from cut_no (by
        have h1 := hno.out
        rw [List.take_of_length_le (by rw [HZ.out]; exact Nat.le_refl _)] at h1
        exact h1))
      go_wp2
      go_ret3
      exact ⟨by rw [HR.out]; show _ = Ending.returned (.tuple #[.string (strOf s), .string (strOf []), .bool false]); rw [HU.out]; rfl, K.out⟩
end
end Go.Proofs.YtgndijdhmkphaaaGreatDoor
