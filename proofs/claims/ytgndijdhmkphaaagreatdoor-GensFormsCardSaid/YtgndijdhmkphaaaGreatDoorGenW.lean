/-
  goitlaw13's sample.
-/
import Derived.Test.YtgndijdhmkphaaaGreatDoorGenR
import Derived.Test.YtgndijdhmkphaaaGreatDoorGenV
namespace Go.Proofs.YtgndijdhmkphaaaGreatDoor
set_option linter.unusedVariables false
section
open Go.RowKit Go.ChangeShapes Go.WideShapes Go.ChangeAt Go.Deep
set_option maxRecDepth 100000
def b0 : BackD := ⟨1, 167772169, 2⟩
theorem b0_addr : ((b0.addr.toNat : Nat) : Int) = 167772169 := by decide
theorem text13 : textB [b0] = [49, 64, 49, 48, 46, 48, 46, 48, 46, 57, 42, 50] := by
  have a1 : addrF 167772169 = [49, 48, 46, 48, 46, 48, 46, 57] := by
    rw [addrF_eq, show byteN 167772169 3 = 10 by decide, show byteN 167772169 2 = 0 by decide, show byteN 167772169 1 = 0 by decide, show byteN 167772169 0 = 9 by decide,
      Lib.decDigits_two (by omega) (by omega), Lib.decDigits_one (by omega), Lib.decDigits_one (by omega)]
    rfl
  have h1 : Lib.itoa 1 = [49] := by
    have := Lib.itoa_nonneg 1
    rw [Lib.decDigits_one (by omega)] at this
    exact this
  have h2 : Lib.itoa 2 = [50] := by
    have := Lib.itoa_nonneg 2
    rw [Lib.decDigits_one (by omega)] at this
    exact this
  unfold textB
  rw [if_neg (by simp), List.map_singleton, Lib.join_one]
  unfold backT b0
  dsimp only
  rw [a1, h1, h2]
  rfl
theorem BkV.form' {W w : World} {sl : Value} {l : List BackD} (h : BkV W w sl l) : ∃ A m c, sl = .slice A m c := by obtain ⟨_, _, h⟩ := h; exact Own.form' h.own
theorem BkArr.ofBlk {w : World} {g : Nat} {b : BackD} (h : Blk w g 27 #[.int .i64 b.id, .int .u32 (b.addr.toNat : Nat), .int .i64 b.weight]) : BkArr w [g] (.slice (some ⟨g, 0, none⟩) 1 1) [b] := by
  refine ⟨_, 1, 1, rfl, rfl, by omega, by unfold maxLen; omega, by simp, fun _ => ⟨g, 0, rfl, by simp, h.lt, fun i a hi => ⟨encB a, rfl, rfl, fun j hj => ?_⟩⟩⟩
  have hi0 : i = 0 := by have := (List.getElem?_eq_some_iff.1 hi).1; simp at this; omega
  subst hi0
  obtain rfl : b = a := by simpa using hi
  rw [h.cell]
  simp [encB]
set_option maxHeartbeats 3200000 in
theorem awake13_any (w : World) (m : Int) (hm : w.cell? ⟨0, 0, none⟩ = some (.int .i64 m)) (ht : PowTab w) :
    Calls Tryz.prog 4 #[] w fun e w' => e = .returned (.bool true) ∧ Kept [] w w' := by
  have HT := Lib.hid (fun w' (hk : Kept [] w w') => tab_kept ht (g := 3) (by kernel_rfl) hk (by simp))
  have HM := Lib.hid (fun w' (hk : Kept [] w w') => m_kept hm hk)
  have B := Lib.hid (show Blk (w.alloc (.cells #[.int .i64 1, .int .u32 167772169, .int .i64 2] 27)) w.heap.size 27 #[.int .i64 b0.id, .int .u32 (b0.addr.toNat : Nat), .int .i64 b0.weight] by rw [b0_addr]; exact Blk.new _ _ _)
  have K := Lib.hid ((Kept.refl [] w).alloc (.cells #[.int .i64 1, .int .u32 167772169, .int .i64 2] 27))
  have hnum : ∀ b ∈ [b0], numB b := by
    intro b hb
    obtain rfl : b = b0 := by simpa using hb
    unfold numB inI b0; decide
  have HN := Lib.hid hnum
  have HX := Lib.hid (show strOf (textB [b0]) = (⟨#[49, 64, 49, 48, 46, 48, 46, 48, 46, 57, 42, 50]⟩ : ByteArray) by rw [text13]; rfl)
  have HY := Lib.hid (show mayBs [b0] = true by decide)
  have HZ := Lib.hid (show mayL [b0] = [b0] by unfold mayL; rw [HY.out]; rfl)
  have HS := Lib.hid (show sameBs [b0] [b0] = true by decide)
  clear hm ht hnum
  go_enter Tryz.func4, Tryz.ntmps4
  go_wp2_with (first
    | (go_at_call 7
       go_must (rw [← HX.out])
       go_must (refine (gParse_good _ [b0] HN.out (by simp) m (HM.out _ K.out) (HT.out _ K.out)).mono ?_)
       go_must (rintro e w1 ⟨v, rfl, hv⟩)
       go_must (rw [HY.out])
       go_must (rw [HZ.out] at hv)
       go_must (have V := Lib.hid hv)
       go_must (obtain ⟨vA, vm, vc, rfl⟩ := BkV.form' hv)
       go_must (have B := Lib.hid (B.out.kept (LV.kept hv) (by simp)))
       go_must (have K := Lib.hid (K.out.trans (LV.kept hv) (by simp)))
       go_must (clear hv))
    | (go_at_call 20
       go_must (refine (gText_any _ [b0] (BkArr.ofBlk B.out) (by omega) HN.out (HT.out _ K.out)).mono ?_)
       go_must (rintro e w2 ⟨rfl, k1⟩)
       go_must (rw [HX.out])
       go_must (have V := Lib.hid (LV.go BkOk V.out k1))
       go_must (have B := Lib.hid (B.out.kept k1 (by simp)))
       go_must (have K := Lib.hid (K.out.trans k1 (by simp)))
       go_must (clear k1))
    | (go_at_call 17
       go_must (obtain ⟨G, hG, _⟩ := LV.arr BkOk V.out)
       go_must (refine (gSame_any _ [b0] [b0] (BkArr.ofBlk B.out) hG).mono ?_)
       go_must (rintro e w3 ⟨rfl, k1⟩)
       go_must (rw [HS.out])
       go_must (have B := Lib.hid (B.out.kept k1 (by simp)))
       go_must (have K := Lib.hid (K.out.trans k1 (by simp)))
       go_must (clear k1 hG))
    | (go_at_call 11
       go_must (refine (gMay_any _ [b0] (BkArr.ofBlk B.out)).mono ?_)
       go_must (rintro e w4 ⟨rfl, k1⟩)
       go_must (rw [HY.out])
       go_must (have K := Lib.hid (K.out.trans k1 (by simp)))
       go_must (clear k1)))
  go_ret
  exact ⟨rfl, K.out⟩
end
end Go.Proofs.YtgndijdhmkphaaaGreatDoor
