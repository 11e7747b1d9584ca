
/-
  The contracts of manifest.Encode and of the reference's EncodeManifest.
-/
import Derived.Test.YtflbeipnnmeiaaaDoorManB
import Derived.Test.YtflbeipnnmeiaaaDoorNb
namespace Go.Proofs.YtflbeipnnmeiaaaDoor
open Go.RowKit Go.ChangeShapes Go.WideShapes Go.Deep
set_option linter.unusedVariables false
set_option maxRecDepth 100000

theorem flat32_snoc (l : List Int) (k : Nat) (h : k < l.length) : (l.take (k + 1)).flatMap u32B = (l.take k).flatMap u32B ++ u32B l[k] := by
  rw [List.take_succ_eq_append_getElem h, List.flatMap_append, List.flatMap_cons, List.flatMap_nil, List.append_nil]
set_option maxHeartbeats 3200000 in
theorem mEncode_any (w : World) {G : List Nat} {A : Option Addr} {m c : Nat} (x : ManD) (h : IntArr w G (.slice A m c) x.segs) :
    Calls Tryd.prog 40 #[.agg #[.int .i64 x.ver, .int .i64 x.next, .slice A m c]] w fun e w' => ∃ v, e = .returned (.tuple #[v, .int .i64 (encME x)]) ∧ NB w w' v (encMF x) := by
  have hk0 : Kept [] w (w.alloc (.cells #[.int .i64 x.ver, .int .i64 x.next, .slice A m c] 71)) := by (repeat (first | exact Kept.refl _ _ | apply Kept.alloc | apply Kept.drew))
  obtain ⟨a1, a2, a3, a4⟩ := h.lens
  have H := Lib.hid (IntArr.kept h (Kept.refl [] w) (by simp))
  have P := Lib.hid (show Blk (w.alloc (.cells #[.int .i64 x.ver, .int .i64 x.next, .slice A m c] 71)) w.heap.size 71 #[.int .i64 x.ver, .int .i64 x.next, .slice A m c] from by (repeat (first | (apply Blk.new'; simp; done) | apply Blk.alloc | apply Blk.drew)))
  have K := Lib.hid hk0
  have A1 := Lib.hid a1
  unfold maxLen at a3
  clear h a4 hk0 a1
  cases hy : mayM x
  · have HE := Lib.hid (show encME x = 1 by simp [encME, hy])
    have HF := Lib.hid (show encMF x = [] by simp [encMF, hy])
    go_enter Tryd.func40, Tryd.ntmps40
    go_wp2_with (go_at_call 53; refine (mMay_any _ x (IntArr.kept H.out K.out (by simp))).mono ?_; rintro e w1 ⟨rfl, k1⟩; rw [hy]; have P := Lib.hid (P.out.kept k1 (by simp)); have K := Lib.hid (K.out.trans k1 (by simp)); have hcx := P.out.cell; clear k1)
    go_ret2
    rw [HE.out, HF.out]
    exact ⟨_, rfl, NB.nil K.out⟩
  · have hp := mayM_parts hy
    have hm64 : m ≤ 64 := by have := hp.2.2.1; rw [A1.out] at this; exact this
    have HP := Lib.hid (putM hy)
    have HE := Lib.hid (show encME x = 0 by simp [encME, hy])
    have HF := Lib.hid (show encMF x = putF ⟨100, x.ver, bodyM x⟩ by simp [encMF, hy])
    have HBD := Lib.hid (show bodyM x = (u32B x.next ++ u16B (m : Int)) ++ x.segs.flatMap u32B by rw [← A1.out, bodyM, List.append_assoc])
    clear hp
    go_enter Tryd.func40, Tryd.ntmps40
    go_wp2_with (first
      | (go_at_call 53
         go_must (refine (mMay_any _ x (IntArr.kept H.out K.out (by simp))).mono ?_)
         go_must (rintro e w1 ⟨rfl, k1⟩)
         go_must (rw [hy])
         go_must (have P := Lib.hid (P.out.kept k1 (by simp)))
         go_must (have K := Lib.hid (K.out.trans k1 (by simp)))
         go_must (have hlp := P.out.lt)
         go_must (clear k1)
         go_must (have hcx := (P.out.alloc (.cells #[.slice none 0 0] 34)).cell))
      | (go_at_call 31
         go_must (refine (VU32 (WV.start K.out) _ (u32n x.next) (wrap_u32n _) (u32n_lt _) (by simp)).mono ?_)
         go_must (rintro e w2 ⟨rfl, hv, ha⟩)
         go_must (have P := Lib.hid (ha _ _ _ (by decide) (by decide) (P.out.alloc (.cells #[.slice none 0 0] 34))))
         go_must (have V := Lib.hid hv)
         go_must (clear hv ha hcx)
         go_must (have hcx := P.out.cell))
      | (go_at_call 33
         go_must (refine (VU16 V.out (m : Int) (by simp [beK_len])).mono ?_)
         go_must (rintro e w3 ⟨rfl, hv, ha⟩)
         go_must (have P := Lib.hid (ha _ _ _ (by decide) (by decide) P.out))
         go_must (have V := Lib.hid hv)
         go_must (clear hv ha hcx)
         go_must (have hcx := P.out.cell)))
    clear hcx
    go_loopg [25] m (fun g i wr => ∃ k : Nat, k ≤ m ∧ g = m - k ∧ i = .int .i64 k ∧ WV w w1.heap.size ((u32B x.next ++ u16B (m : Int)) ++ (x.segs.take k).flatMap u32B) wr ∧ Blk wr w.heap.size 71 #[.int .i64 x.ver, .int .i64 x.next, .slice A m c])
    case atStart => exact ⟨0, by omega, by omega, rfl, by have := V.out; simpa [u32B, u16B] using this, P.out⟩
    case round =>
      obtain ⟨k, hk, rfl, rfl, hv, hP⟩ := hrel
      have V := Lib.hid hv
      have P := Lib.hid hP
      clear hv hP
      have hbl : ((x.segs.take k).flatMap u32B).length ≤ 256 := by rw [flat32_len, List.length_take, A1.out]; omega
      by_cases hlt : k < m
      · have hkl : k < x.segs.length := by rw [A1.out]; exact hlt
        obtain ⟨g, o, rfl, hg, hgG, c0, -⟩ := (IntArr.kept H.out V.out.kept (by simp)).at (k := k) hkl
        have HS := Lib.hid (flat32_snoc x.segs k hkl)
        generalize x.segs[k]'hkl = s at *
        clear hkl
        have i0 : (0 : Int) ≤ (k : Int) := by omega
        have i1 : (k : Int) < (m : Int) := by omega
        go_wp2_with (go_at_call 31
                     go_must (refine (VU32 V.out _ (u32n s) (wrap_u32n _) (u32n_lt _) (by simp only [List.length_append, u32B_len, u16B_len]; omega)).mono ?_)
                     go_must (rintro e w5 ⟨rfl, hv, ha⟩)
                     go_must (have P := Lib.hid (ha _ _ _ (by decide) (by decide) P.out))
                     go_must (have V := Lib.hid hv)
                     go_must (clear hv ha c0))
        go_roundg (m - (k + 1))
        case measure => omega
        case rel => exact ⟨k + 1, by omega, rfl, by go_num, by rw [HS.out, ← List.append_assoc]; exact V.out, P.out⟩
      · have HT := Lib.hid (show x.segs.take k = x.segs from List.take_of_length_le (by rw [A1.out]; omega))
        have i1 : ¬ (k : Int) < (m : Int) := by omega
        have V := Lib.hid (show WV w w1.heap.size (bodyM x) wr by have := V.out; rw [HT.out, ← HBD.out] at this; exact this)
        have hlb : (bodyM x).length ≤ 300 := by rw [HBD.out, ← HT.out]; simp only [List.length_append, u32B_len, u16B_len]; omega
        have HLB := Lib.hid hlb
        clear hbl
        have hcx := P.out.cell
        go_upto_region 11 with fail
        go_region_held3 (fun w' => ∀ o, w'.cell? ⟨w.heap.size, o, none⟩ = (#[.int .i64 x.ver, .int .i64 x.next, .slice A m c] : Array Value)[o]?) (exact P.out.cell)
          (first
            | (go_at_call 13
               go_must (refine (VBytes (V.out.go (Kept.refl [] _).drew) (by have := HLB.out; omega)).mono ?_)
               go_must (rintro e w6 ⟨A6, n6, c6, rfl, hn6, hn, -, hk6⟩)
               go_must (have P := Lib.hid (P.out.drew.kept hk6 (by simp)))
               go_must (have K := Lib.hid hn.2.1)
               go_must (have R := Lib.hid (RdB.of_own (hn.cast hn6.symm rfl).1))
               go_must (have R := Lib.hid (show RdB w6 (rowOf (.slice A6 n6 c6)) (.slice A6 n6 c6) (bodyM x) from by have h := hn.1; rw [← hn6] at h; have := RdB.of_own h; rw [hn6] at this; exact this))
               go_must (clear hn hk6 hn6))
            | (go_at_call 54
               go_must (refine (Put_any _ _ _ _ _ (⟨100, x.ver, bodyM x⟩ : FrameD) R.out).mono ?_)
               go_must (rintro e w7 ⟨v7, rfl, hn⟩)
               go_must (have N := Lib.hid (NB.of hn))
               go_must (have P := Lib.hid (P.out.kept N.out.kept (by simp)))
               go_must (rw [HP.out])
               go_must (clear hn)))
        all_goals
          go_wp2
          go_ret2
          rw [HE.out, HF.out]
          exact ⟨v7, rfl, N.out.wide K.out⟩
end Go.Proofs.YtflbeipnnmeiaaaDoor
