
/-
  The walk of ManifestNames.
-/
import Derived.Test.YtflbeipnnmeiaaaDoorManZ
import Derived.Test.YtflbeipnnmeiaaaDoorManG
import Derived.ChangeMaps5
namespace Go.Proofs.YtflbeipnnmeiaaaDoor
open Go.RowKit Go.ChangeShapes Go.WideShapes Go.ChangeAt Go.Deep
set_option linter.unusedVariables false
set_option maxRecDepth 100000

theorem number_no {l : List UInt8} (h : (numberF l).2 = false) : (numberF l).1 = 0 := by
  unfold numberF at h ⊢
  split
  · rename_i hh
    rw [if_pos hh] at h
    have : numV (l.drop 1) = 0 := by simpa using h
    show ((numV (l.drop 1) : Nat) : Int) = 0
    rw [this]; rfl
  · rfl
set_option maxHeartbeats 1600000 in
theorem ManifestNames_any (w : World) (seg : Int) (s : ByteArray) (hs : s.size ≤ maxLen) (ht : PowTab w) (hg : ∃ g, Tryd.prog.globalNamed "internal/strconv.uint64pow10" = some g) :
    Calls Tryd.prog 5 #[.int .i64 seg, .string s] w fun e w' => e = .returned (.bool true) ∧ Kept [] w w' := by
  obtain ⟨g, hg⟩ := hg
  have HT := Lib.hid (fun w' (hk : Kept [] w w') => tab_kept ht hg hk (by simp))
  have hno := @number_no s.data.toList
  obtain ⟨p, hp⟩ : ∃ p, numberF s.data.toList = p := ⟨_, rfl⟩
  obtain ⟨a, ok⟩ := p
  rw [hp] at hno
  dsimp only at hno
  have HP := Lib.hid hp
  have HS := Lib.hid hs
  have K := Lib.hid (Kept.refl [] w)
  obtain ⟨nm, hnm⟩ : ∃ nm, strOf (nameF seg) = nm := ⟨_, rfl⟩
  have HNM := Lib.hid hnm
  clear hp hs ht hg hnm
  cases ok
  all_goals
    first
      | (obtain rfl := hno rfl)
      | skip
    clear hno
    go_enter Tryd.func5, Tryd.ntmps5
    go_wp2_with (first
      | (go_at_call 16
         go_must (refine (Number_any _ _ HS.out).mono ?_)
         go_must (rintro e w' ⟨rfl, rfl⟩)
         go_must (rw [HP.out]))
      | (go_at_call 17
         go_must (refine (rNumber_any _ _ HS.out).mono ?_)
         go_must (rintro e w' ⟨rfl, rfl⟩)
         go_must (rw [HP.out]))
      | (go_at_call 18
         go_must (refine (Name_any _ _).mono ?_)
         go_must (rintro e w1 ⟨rfl, k1⟩)
         go_must (rw [HNM.out])
         go_must (have K := Lib.hid k1)
         go_must (clear k1))
      | (go_at_call 19
         go_must (refine (rName_any _ _ (HT.out _ K.out)).mono ?_)
         go_must (rintro e w2 ⟨rfl, k1⟩)
         go_must (rw [HNM.out])
         go_must (have K := Lib.hid (K.out.trans k1 (by simp)))
         go_must (clear k1))
      | (go_at_call 20
         go_must (refine (awake5_any _).mono ?_)
         go_must (rintro e w3 ⟨rfl, k1⟩)
         go_must (have K := Lib.hid (K.out.trans k1 (by simp)))
         go_must (clear k1)))
    go_ret
    exact ⟨rfl, K.out⟩
theorem powG : Tryd.prog.globalNamed "internal/strconv.uint64pow10" = some 1 := by kernel_rfl
theorem ManifestNames_walk {H : Type} {enc : TypeId × Value → H} {S : Prop} (W : World) (base : Nat) (v0 : Value) (d0 : DataW H) (p0 : List MemPlace) (v1 : Value) (d1 : DataW H) (p1 : List MemPlace)
    (hv0 : Value.okWide Tryd.prog W .any base 3 v0) (hv1 : Value.okWide Tryd.prog W .any base 9 v1)
    (h0 : DataW.Trod enc Tryd.prog W 0 (fun _ => true) true 3 v0 d0 p0) (h1 : DataW.Trod enc Tryd.prog W 0 (fun _ => true) true 9 v1 d1 p1) (_ : S) (ht : PowTab W) :
    Calls Tryd.prog 5 #[v0, v1] W fun e W' => e = .returned (.bool true) ∧ Below W.heap.size W W' := by
  obtain ⟨seg, rfl, rfl, rfl, _⟩ := open_int Tryd.underlying3 hv0 h0
  obtain ⟨s, rfl, rfl, rfl, ws⟩ := ChangeMaps.open_string Tryd.underlying9 hv1 h1
  exact (ManifestNames_any W seg s ws ht ⟨_, powG⟩).mono fun e W' ⟨h, hk⟩ => ⟨h, hk.below (Nat.le_refl _) (by simp)⟩
end Go.Proofs.YtflbeipnnmeiaaaDoor
