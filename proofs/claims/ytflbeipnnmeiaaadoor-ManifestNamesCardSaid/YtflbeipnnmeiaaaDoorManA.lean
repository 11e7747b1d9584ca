
/-
  The contracts of manifest.May, Same and of the reference's.
-/
import Derived.Test.YtflbeipnnmeiaaaDoorManM
import Derived.Test.YtflbeipnnmeiaaaDoorFrameA
import Derived.Test.YtflbeipnnmeiaaaDoorRecA
import Derived.Test.YtflbeipnnmeiaaaDoorPut
import Derived.Deep.DeepCutAuto
import Derived.Deep.RegionHeld3
import Derived.Outline
namespace Go.Proofs.YtflbeipnnmeiaaaDoor
open Go.RowKit Go.ChangeShapes Go.WideShapes Go.Deep
set_option linter.unusedVariables false
set_option maxRecDepth 100000

theorem rises_drop {next u : Int} {l : List Int} {k : Nat} (h : k < l.length) : rises next u (l.drop k) = (decide (u < l[k]) && (decide (l[k] < next) && rises next l[k] (l.drop (k + 1)))) := by
  rw [← List.getElem_cons_drop (h := h)]; rfl
set_option maxHeartbeats 1600000 in
theorem mMay_any (w : World) {G : List Nat} {A : Option Addr} {m c : Nat} (x : ManD) (h : IntArr w G (.slice A m c) x.segs) :
    Calls Tryd.prog 53 #[.agg #[.int .i64 x.ver, .int .i64 x.next, .slice A m c]] w fun e w' => e = .returned (.bool (mayM x)) ∧ Kept [] w w' := by
  obtain ⟨a1, a2, a3, a4⟩ := h.lens
  have H := Lib.hid (IntArr.kept h ((Kept.refl [] w).alloc (.cells #[.int .i64 x.ver, .int .i64 x.next, .slice A m c] 71)) (by simp))
  have A1 := Lib.hid a1
  unfold maxLen at a3
  clear h a4
  have hways : (x.ver < 1 ∧ mayM x = false) ∨ (1 ≤ x.ver ∧ 3 < x.ver ∧ mayM x = false) ∨ (1 ≤ x.ver ∧ x.ver ≤ 3 ∧ m < 1 ∧ mayM x = false) ∨ (1 ≤ x.ver ∧ x.ver ≤ 3 ∧ 1 ≤ m ∧ 64 < m ∧ mayM x = false) ∨ (1 ≤ x.ver ∧ x.ver ≤ 3 ∧ 1 ≤ m ∧ m ≤ 64 ∧ x.next < 1 ∧ mayM x = false) ∨ (1 ≤ x.ver ∧ x.ver ≤ 3 ∧ 1 ≤ m ∧ m ≤ 64 ∧ 1 ≤ x.next ∧ 1000000 < x.next ∧ mayM x = false) ∨ (1 ≤ x.ver ∧ x.ver ≤ 3 ∧ 1 ≤ m ∧ m ≤ 64 ∧ 1 ≤ x.next ∧ x.next ≤ 1000000 ∧ mayM x = rises x.next 0 x.segs) := by
    have e : verB x.ver = (decide (1 ≤ x.ver) && decide (x.ver ≤ 3)) := rfl
    unfold mayM; rw [a1, e]
    by_cases q1 : 1 ≤ x.ver <;> by_cases q2 : x.ver ≤ 3 <;> by_cases q3 : 1 ≤ m <;> by_cases q4 : m ≤ 64 <;> by_cases q5 : 1 ≤ x.next <;> by_cases q6 : x.next ≤ 1000000 <;> simp [q1, q2, q3, q4, q5, q6] <;> omega
  clear a1
  rcases hways with ⟨v1, hr⟩ | ⟨v1, v2, hr⟩ | ⟨v1, v2, h1, hr⟩ | ⟨v1, v2, h1, h2, hr⟩ | ⟨v1, v2, h1, h2, h3, hr⟩ | ⟨v1, v2, h1, h2, h3, h4, hr⟩ | ⟨v1, v2, h1, h2, h3, h4, hr⟩
  · have HR := Lib.hid hr
    clear hr
    go_enter Tryd.func53, Tryd.ntmps53
    go_wp2
    go_ret
    exact ⟨ret_bool (by rw [HR.out]), by (repeat (first | exact Kept.refl _ _ | apply Kept.alloc | apply Kept.drew))⟩
  · have HR := Lib.hid hr
    clear hr
    go_enter Tryd.func53, Tryd.ntmps53
    go_wp2
    go_ret
    exact ⟨ret_bool (by rw [HR.out]), by (repeat (first | exact Kept.refl _ _ | apply Kept.alloc | apply Kept.drew))⟩
  · have HR := Lib.hid hr
    clear hr
    go_enter Tryd.func53, Tryd.ntmps53
    go_wp2
    go_ret
    exact ⟨ret_bool (by rw [HR.out]), by (repeat (first | exact Kept.refl _ _ | apply Kept.alloc | apply Kept.drew))⟩
  · have HR := Lib.hid hr
    clear hr
    go_enter Tryd.func53, Tryd.ntmps53
    go_wp2
    go_ret
    exact ⟨ret_bool (by rw [HR.out]), by (repeat (first | exact Kept.refl _ _ | apply Kept.alloc | apply Kept.drew))⟩
  · have HR := Lib.hid hr
    clear hr
    go_enter Tryd.func53, Tryd.ntmps53
    go_wp2
    go_ret
    exact ⟨ret_bool (by rw [HR.out]), by (repeat (first | exact Kept.refl _ _ | apply Kept.alloc | apply Kept.drew))⟩
  · have HR := Lib.hid hr
    clear hr
    go_enter Tryd.func53, Tryd.ntmps53
    go_wp2
    go_ret
    exact ⟨ret_bool (by rw [HR.out]), by (repeat (first | exact Kept.refl _ _ | apply Kept.alloc | apply Kept.drew))⟩
  · have HR := Lib.hid hr
    have i1 : (1 : Int) ≤ (m : Int) := by omega
    have i2 : (m : Int) ≤ 64 := by omega
    clear hr
    go_enter Tryd.func53, Tryd.ntmps53
    go_wp2
    go_loop [3, 39] (fun u i => ∃ k : Nat, k ≤ m ∧ i = .int .i64 k ∧ ∃ uu : Int, u = .int .i64 uu ∧ rises x.next 0 x.segs = rises x.next uu (x.segs.drop k)) (fun _ i => m - (intOf i).toNat)
    case atStart => exact ⟨0, by omega, rfl, 0, rfl, rfl⟩
    case round =>
      obtain ⟨k, hk, rfl, u, rfl, hs⟩ := hrel
      have HS := Lib.hid hs
      clear hs
      by_cases hlt : k < m
      · have hkl : k < x.segs.length := by rw [A1.out]; exact hlt
        obtain ⟨g, o, rfl, hg, hgG, c0, b0, b1⟩ := H.out.at (k := k) hkl
        have HD := Lib.hid (rises_drop (next := x.next) (u := u) hkl)
        generalize x.segs[k]'hkl = s at *
        clear hkl
        have j0 : (0 : Int) ≤ (k : Int) := by omega
        have j1 : (k : Int) < (m : Int) := by omega
        simp at hg
        have hg' : ¬ w.heap.size = g ∨ True := Or.inr trivial
        by_cases q1 : u < s
        · by_cases q2 : s < x.next
          · have hres := Lib.hid (show rises x.next 0 x.segs = rises x.next s (x.segs.drop (k + 1)) by rw [HS.out, HD.out]; simp [q1, q2])
            have q3 : ¬ s ≤ u := by omega
            have q4 : ¬ x.next ≤ s := by omega
            clear hg'
            go_wp2
            go_round
            case rel => exact ⟨k + 1, by omega, by go_num, s, rfl, hres.out⟩
            case measure => simp [intOf]; omega
          · have hres := Lib.hid (show rises x.next 0 x.segs = false by rw [HS.out, HD.out]; simp [q2])
            have q3 : ¬ s ≤ u := by omega
            have q4 : x.next ≤ s := by omega
            clear hg'
            go_wp2
            go_ret
            exact ⟨ret_bool (by rw [HR.out, hres.out]), by (repeat (first | exact Kept.refl _ _ | apply Kept.alloc | apply Kept.drew))⟩
        · have hres := Lib.hid (show rises x.next 0 x.segs = false by rw [HS.out, HD.out]; simp [q1])
          have q3 : s ≤ u := by omega
          clear hg'
          go_wp2
          go_ret
          exact ⟨ret_bool (by rw [HR.out, hres.out]), by (repeat (first | exact Kept.refl _ _ | apply Kept.alloc | apply Kept.drew))⟩
      · have hres := Lib.hid (show rises x.next 0 x.segs = true by rw [HS.out, List.drop_of_length_le (by rw [A1.out]; omega)]; rfl)
        have j1 : ¬ (k : Int) < (m : Int) := by omega
        go_wp2
        go_ret
        exact ⟨ret_bool (by rw [HR.out, hres.out]), by (repeat (first | exact Kept.refl _ _ | apply Kept.alloc | apply Kept.drew))⟩
end Go.Proofs.YtflbeipnnmeiaaaDoor
