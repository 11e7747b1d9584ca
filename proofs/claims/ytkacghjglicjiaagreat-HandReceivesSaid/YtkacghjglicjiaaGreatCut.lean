/-
  A slice of bytes of the call's own: a byte of it written, cut off.
-/
import Derived.Test.YtkacghjglicjiaaGreatHsF
import Derived.Test.YtkacghjglicjiaaGreatStX
import Derived.Test.YtkacghjglicjiaaGreatNb
import Derived.Test.YtkacghjglicjiaaGreatFrameA
namespace Go.Proofs.YtkacghjglicjiaaGreat
set_option linter.unusedVariables false
section
open Go.RowKit Go.ChangeShapes Go.WideShapes Go.ChangeAt Go.Deep Go.MapKept
theorem RdB.head {w : World} {G : List Nat} {A : Option Addr} {m c : Nat} {bs : List UInt8} (h : RdB w G (.slice A m c) bs) (k : Nat) (hk : k ≤ m) : RdB w G (.slice A k c) (bs.take k) := by
  obtain ⟨A', m', c', e, h2, h3, h4, h5, h6, h7⟩ := h
  injection e with e1 e2 e3
  subst e1 e2 e3
  exact ⟨A, k, c, rfl, by rw [List.length_take]; omega, by omega, h4, h5.take k, fun i hi hne => h6 i hi (ne_take hne), fun hA => by have := h7 hA; omega⟩
theorem strm_pos {S : StD} (ok : OkS S) (okf : OkF S) {V : VwD} (h : IsView S V) {now : Int} (ht : timeB now = true) : 1 ≤ (strm (sentR V now)).length := by
  rcases Nat.eq_zero_or_pos (strm (sentR V now)).length with h0 | h0
  · have h1 := send_recv ok okf h ht
    rw [List.eq_nil_of_length_eq_zero h0] at h1
    have h2 : recvM [] = (nilV, 0, 11) := by
      unfold recvM
      simp [scanF, scanN, wholeB]
    rw [h2] at h1
    have := congrArg (·.2.2) h1
    cases this
  · exact h0
theorem recv_known {w w' : World} {bs : List UInt8} {e : Ending} (h : RecvPost w bs e w') {V : VwD} {t n : Int} (hm : recvM bs = (V, t, n)) :
    Kept [] w w' ∧ ∃ A1 m1 c1 A2 m2 c2 A3 m3 c3 G', e = .returned (.tuple #[.agg #[.int .i64 V.gen, .slice A1 m1 c1, .slice A2 m2 c2, .slice A3 m3 c3], .int .i64 t, .int .i64 n]) ∧ VA w' G' A1 m1 c1 A2 m2 c2 A3 m3 c3 V := by
  obtain ⟨hk, A1, m1, c1, A2, m2, c2, A3, m3, c3, G', h1, h2⟩ := h
  rw [hm] at h1 h2
  exact ⟨hk, A1, m1, c1, A2, m2, c2, A3, m3, c3, G', h1, h2⟩
theorem send_known {w w' : World} {V : VwD} {now : Int} {e : Ending} (h : SendPost w V now e w') (hg : goodV V) (ht : timeB now = true) :
    ∃ A m c, e = .returned (.tuple #[.slice A m c, .int .i64 0]) ∧ NB w w' (.slice A m c) (strm (sentR V now)) := by
  rcases h with ⟨_, _, A, m, c, h1, h2⟩ | ⟨h1, _⟩
  · exact ⟨A, m, c, h1, h2⟩
  · exact absurd ⟨hg, ht⟩ h1
set_option maxRecDepth 100000 in
set_option maxHeartbeats 6400000 in
theorem awake24_any (w : World) : Calls Tryz.prog 8 #[] w fun e w' => e = .returned (.bool true) ∧ Kept [] w w' := by
  have HG := Lib.hid (good_view OkS.new OkF.new nil_view)
  have HT := Lib.hid (show timeB 7 = true by decide)
  have HR := Lib.hid (send_recv OkS.new OkF.new nil_view HT.out)
  have HP := Lib.hid (strm_pos OkS.new OkF.new nil_view HT.out)
  have HC := Lib.hid (fun a (ha : a < (strm (sentR nilV 7)).length) => recv_cut OkS.new OkF.new nil_view HT.out ha)
  have HLE := Lib.hid (show (strm (sentR nilV 7)).length ≤ 1000000 by
    have h1 := strm_le (sentR nilV 7)
    have h2 : (sentR nilV 7).length = 3 := by rw [sent_len]; rfl
    omega)
  have SD := Lib.hid (show Calls Tryz.prog 10 #[.agg #[.int .i64 nilV.gen, .slice none 0 0, .slice none 0 0, .slice none 0 0], .int .i64 7] w (fun e w' => SendPost w nilV 7 e w') from Send_any w nilV 7 (VA.nil w) (by simp [nilV]) (by simp [nilV]) (by simp [nilV]))
  obtain ⟨bs, hbs⟩ : ∃ b, strm (sentR nilV 7) = b := ⟨_, rfl⟩
  have HBS := Lib.hid hbs
  rw [hbs] at HR HP HC HLE
  clear hbs
  go_enter Tryz.func8, Tryz.ntmps8
  go_upto_region 3 with (first
    | (go_at_call 10
       refine SD.out.mono ?_
       rintro e w1 hpost
       obtain ⟨A, m, c, rfl, hn⟩ := send_known hpost HG.out HT.out
       rw [HBS.out] at hn
       have NB1 := Lib.hid hn
       have K1 := Lib.hid hn.kept
       have ML := Lib.hid hn.rd.len.1
       clear hpost hn)
    | (go_at_call 15
       refine (Receive_any _ bs NB1.out.rd (by have := ML.out; have := HLE.out; omega)).mono ?_
       rintro e w2 hpost
       obtain ⟨hk2, A1, m1, c1, A2, m2, c2, A3, m3, c3, G', rfl, hva⟩ := recv_known hpost HR.out
       have K2 := Lib.hid (K1.out.trans hk2 (by simp))
       have NB2 := Lib.hid (NB1.out.go hk2)
       have M3 := Lib.hid (hva.fl.len.1)
       clear hpost hk2 hva)
    | (((with_reducible show wpList _ _ _ ({ dst := none, op := Op.store 26 (.tmp 3) (.tmp 17), type := _, pos := _, after := _, guard := _ } :: _) _ _); refine wpList_put (t := 26) rfl 26 (.tmp 3) (.tmp 17) rfl _ (by rfl) (by rfl) (by (repeat (first | (apply Blk.new'; simp; done) | apply Blk.alloc | apply Blk.drew))) (by rfl) (by kernel_rfl) (by simp [Value.oneCell']) ?_; intro w3 hb3 hk3; have Hb3 := Lib.hid hb3; have Hk3 := Lib.hid hk3; clear hb3 hk3)
       have hk3 := (((Kept.refl [] w2).alloc _).trans Hk3.out (fun i hi => .inr (by simp at hi; omega)) : Kept [] w2 w3)
       have K3 := Lib.hid (K2.out.trans hk3 (by simp))
       have NB3 := Lib.hid (NB2.out.go hk3)
       clear hk3))
  have m30 : m3 = 0 := by have := M3.out; simpa [nilV] using this.symm
  subst m30
  obtain ⟨n, rfl⟩ : ∃ n, m = n + 1 := ⟨m - 1, by have := ML.out; have := HP.out; omega⟩
  have hcap := NB3.out.rd.len
  unfold maxLen at hcap
  have hc1 : n + 1 ≤ c := hcap.2.1
  have hc2 : c ≤ 2 ^ 63 - 1 := hcap.2.2.1
  have RT := Lib.hid (RdB.head NB3.out.rd n (by omega))
  have HM := Lib.hid (HC.out n (by have := ML.out; omega))
  have HLT := Lib.hid (show n ≤ 1000000 by have := ML.out; have := HLE.out; omega)
  have iw1 : IntKind.i64.wrap ((n : Int) + 1 - 1) = (n : Int) := by rw [Int.add_sub_cancel]; exact IntWalk.i64_in _ (by omega)
  have iw2 : IntKind.i64.wrap (n : Int) = (n : Int) := IntWalk.i64_in _ (by omega)
  have i1 : ¬ (n : Int) + 1 < 1 := by omega
  have i0 : (0 : Int) ≤ (n : Int) := by omega
  have i2 : (n : Int) ≤ (c : Int) := by omega
  clear hcap
  go_wp2_with (first
    | (go_at_call 15
       refine (Receive_any _ _ RT.out HLT.out).mono ?_
       rintro e w4 hpost
       obtain ⟨hk4, E1, f1, g1, E2, f2, g2, E3, f3, g3, G4, rfl, hva⟩ := recv_known hpost HM.out
       have K4 := Lib.hid (K3.out.trans hk4 (by simp))
       have B4 := Lib.hid (Hb3.out.kept hk4 (by simp))
       clear hpost hk4 hva)
    | (((with_reducible show wpList _ _ _ ({ dst := none, op := Op.store 26 (.tmp 6) (.tmp 30), type := _, pos := _, after := _, guard := _ } :: _) _ _); refine wpList_put (t := 26) rfl 26 (.tmp 6) (.tmp 30) rfl _ (by rfl) (by rfl) (by (repeat (first | (apply Blk.new'; simp; done) | apply Blk.alloc | apply Blk.drew))) (by rfl) (by kernel_rfl) (by simp [Value.oneCell']) ?_; intro w5 hb5 hk5; have Hb5 := Lib.hid hb5; have Hk5 := Lib.hid hk5; clear hb5 hk5)
       have hk5 := (((Kept.refl [] w4).alloc _).trans Hk5.out (fun i hi => .inr (by simp at hi; omega)) : Kept [] w4 w5)
       have K5 := Lib.hid (K4.out.trans hk5 (by simp))
       have hx5 := (B4.out.kept hk5 (by simp)).cell
       clear hk5))
  go_ret
  exact ⟨rfl, K5.out⟩
end
section
open Go.RowKit Go.ChangeShapes Go.WideShapes Go.ChangeAt Go.Deep Go.MapKept
section
variable {H : Type} {enc : TypeId × Value → H} {w : World}
end
end
section
open Go.RowKit Go.ChangeShapes Go.WideShapes Go.Deep
theorem Own.cut {w : World} {e : TypeId} {s n cap j : Nat} {A : Option Addr} {xs : List Value} (h : Own w e s (.slice A n cap) n xs) (hj : j ≤ n) (h0 : 0 < n) : Own w e s (.slice A j cap) j (xs.take (j * s)) := by
  have hl := h.1
  rcases h.2 with ⟨_, h2⟩ | ⟨g, cap', cur, hv, hb, hg, h3, h4, h5, h6⟩
  · omega
  · injection hv with e1 e2 e3
    subst e1 e3
    have hjs : j * s ≤ n * s := Nat.mul_le_mul_right _ hj
    refine ⟨by rw [List.length_take, hl]; omega, .inr ⟨g, cap, cur, rfl, hb, hg, by omega, h4, h5, ?_⟩⟩
    rw [← h6, List.take_take, Nat.min_eq_left hjs]
theorem NB.cut {W w : World} {A : Option Addr} {n cap j : Nat} {bs : List UInt8} (h : NB W w (.slice A n cap) bs) (hn : bs.length = n) (hj : j ≤ n) (h0 : 0 < n) : NB W w (.slice A j cap) (bs.take j) := by
  subst hn
  have hx := Own.cut h.1 hj h0
  have e : (bs.take j).length = j := by rw [List.length_take]; omega
  refine ⟨?_, h.2.1, fun k hk => h.2.2 k (by cases A <;> exact hk)⟩
  rw [e]
  rw [Nat.mul_one] at hx
  have e2 : u8s (bs.take j) = (u8s bs).take j := by simp [u8s, List.map_take]
  rw [e2]; exact hx
theorem NB.set {W w : World} {g n cap : Nat} {bs : List UInt8} (h : NB W w (.slice (some ⟨g, 0, none⟩) n cap) bs) (hn : bs.length = n) (j : Nat) (b : UInt8) {u : Value} (hu : u = .int .u8 b.toNat) :
    NB W (w.setCell ⟨g, j, none⟩ u) (.slice (some ⟨g, 0, none⟩) n cap) (bs.set j b) := by
  subst hn hu
  have := New.set h j b
  unfold NB
  rw [List.length_set]
  exact this
theorem NB.some {W w : World} {v : Value} {bs : List UInt8} (h : NB W w v bs) (h0 : 0 < bs.length) : ∃ g c, v = .slice (some ⟨g, 0, none⟩) bs.length c ∧ bs.length ≤ c ∧ c ≤ maxLen := by
  obtain ⟨A, c, rfl, h1, h2⟩ := h.1.form
  rcases h.1.2 with ⟨h3, h4⟩ | ⟨g, cap, cur, h3, _⟩
  · omega
  · injection h3 with e1 e2 e3
    subst e1
    exact ⟨g, c, rfl, h1, h2⟩
end
end Go.Proofs.YtkacghjglicjiaaGreat
