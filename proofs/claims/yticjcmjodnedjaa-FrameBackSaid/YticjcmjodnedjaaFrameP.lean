/-
  Contracts: Scan, the reference's Scan.
-/
import Derived.Test.YticjcmjodnedjaaFrameN
namespace Go.Proofs.Yticjcmjodnedjaa
open Go.RowKit Go.ChangeShapes Go.WideShapes Go.Deep
set_option linter.unusedVariables false

/-- the frames l have been scanned, k bytes are behind them -/
def ScanAt (bs : List UInt8) (l : List FrameD) (k : Nat) : Prop := scanF bs = (l ++ (scanF (bs.drop k)).1, k + (scanF (bs.drop k)).2.1, (scanF (bs.drop k)).2.2)
theorem ScanAt.start (bs : List UInt8) : ScanAt bs [] 0 := by simp [ScanAt]
theorem ScanAt.step {bs : List UInt8} {l : List FrameD} {k n : Nat} {f : FrameD} (h : ScanAt bs l k) (hk : k < bs.length) (ht : takeF (bs.drop k) = (f, n, 0)) : ScanAt bs (l ++ [f]) (k + n) := by
  unfold ScanAt at *
  have hne : bs.drop k ≠ [] := by intro h0; have h0 := congrArg List.length h0; rw [List.length_drop, List.length_nil] at h0; omega
  rw [scanF_cons hne (by rw [ht]), ht, List.drop_drop] at h
  rw [h]
  simp [Nat.add_assoc]
theorem ScanAt.err {bs : List UInt8} {l : List FrameD} {k n : Nat} {f : FrameD} {e : Int} (h : ScanAt bs l k) (hk : k < bs.length) (ht : takeF (bs.drop k) = (f, n, e)) (he : e ≠ 0) : scanF bs = (l, k, e) := by
  unfold ScanAt at h
  have hne : bs.drop k ≠ [] := by intro h0; have h0 := congrArg List.length h0; rw [List.length_drop, List.length_nil] at h0; omega
  rw [scanF_err hne (by rw [ht]; exact he), ht] at h
  rw [h]; simp
theorem ScanAt.done {bs : List UInt8} {l : List FrameD} {k : Nat} (h : ScanAt bs l k) (hk : bs.length ≤ k) : scanF bs = (l, k, 0) := by
  unfold ScanAt at h
  rw [List.drop_of_length_le hk, scanF_nil] at h
  rw [h]; simp
theorem take_bound {bs : List UInt8} {k n : Nat} {f : FrameD} (ht : takeF (bs.drop k) = (f, n, 0)) (hk : k ≤ bs.length) : 16 ≤ n ∧ k + n ≤ bs.length := by
  have h := take_len (bs.drop k) (by rw [ht])
  rw [ht, List.length_drop] at h
  simp only at h
  omega

set_option maxHeartbeats 1600000 in
theorem Scan_any (w : World) (G : List Nat) (A : Option Addr) (m c : Nat) (bs : List UInt8) (h : RdB w G (.slice A m c) bs) (hl : m ≤ 1099511627776) :
    Calls Try.prog 49 #[.slice A m c] w fun e w' => ∃ v, e = .returned (.tuple #[v, .int .i64 (scanF bs).2.1, .int .i64 (scanF bs).2.2]) ∧ FrV w w' v (scanF bs).1 := by
  have hm := h.len
  have H := Lib.hid h
  have Hm := Lib.hid hm.1
  have hcm := hm.2.2.1
  have hmc := hm.2.1
  unfold maxLen at hcm
  clear h hm
  go_enter Try.func49, Try.ntmps49
  go_wp2
  go_loopg [5, 6] m (fun g out at' wr => ∃ k l, k ≤ m ∧ g = m - k ∧ at' = .int .i64 (k : Nat) ∧ ScanAt bs l k ∧ FrV w wr out l ∧ 16 * l.length ≤ k)
  case atStart => exact ⟨0, [], by omega, by omega, rfl, ScanAt.start _, LV.nil (Kept.refl _ _), by simp⟩
  case round =>
    obtain ⟨k, l, hk, rfl, rfl, hs, hv, hlk⟩ := hrel
    have Hs := Lib.hid hs
    have Hv := Lib.hid hv
    obtain ⟨css, G', hx⟩ := hv
    obtain ⟨B, cap, rfl, -, -⟩ := hx.own.form
    have Hx := Lib.hid hx
    have hll : l.length ≤ 68719476736 := by omega
    have Hlk := Lib.hid hlk
    generalize hln : l.length = ln at *
    have Hln := Lib.hid hln
    clear hs hx hlk hln
    by_cases hlt : k < m
    · have hkb : k < bs.length := by rw [Hm.out]; exact hlt
      obtain ⟨g, o, rfl, -⟩ := H.out.rd (by intro h0; have := u8s_nil h0; subst this; simp at hkb)
      have hne1 : ¬ c = k := by omega
      have hne2 : ¬ k = c := by omega
      have hne3 : ¬ (c : Int) = (k : Int) := by omega
      have hd := (H.out.kept Hv.out.kept (by simp)).drop k (by omega)
      have hd : RdB wr G (.slice (some ⟨g, o + k, none⟩) (m - k) (c - k)) (bs.drop k) := by simpa [Addr.add_lit] using hd
      have Hd := Lib.hid hd
      have Hkb := Lib.hid hkb
      clear hd hkb
      go_wp2_with fail
      refine (Take_any _ _ _ _ _ _ Hd.out).mono ?_
      rintro e w2 ⟨v2, rfl, hn2⟩
      obtain ⟨A2, n2, c2, rfl⟩ := hn2.1.form'
      obtain ⟨f, n, e, ht⟩ : ∃ f n e, takeF (bs.drop k) = (f, n, e) := ⟨_, _, _, rfl⟩
      have Ht := Lib.hid ht
      rw [ht] at hn2 ⊢
      dsimp only at hn2 ⊢
      have Hn2 := Lib.hid hn2
      clear hn2 ht
      by_cases he : e = 0
      · subst he
        have hb := take_bound Ht.out (Nat.le_of_lt Hkb.out)
        have hb1 := hb.1
        have hb2 : k + n ≤ m := by rw [← Hm.out]; exact hb.2
        clear hb
        have hs1 : IntKind.i64.wrap ((k : Int) + (n : Int)) = (k : Int) + n := IntWalk.i64_in _ (by omega)
        have hsrc := Rd.laid (w2.alloc (.cells #[.int .i64 f.kind, .int .i64 f.ver, .slice A2 n2 c2] 59)) [.int .i64 f.kind, .int .i64 f.ver, .slice A2 n2 c2] 59
        rw [World.size_alloc] at hsrc
        have Hsrc := Lib.hid hsrc
        clear hsrc
        go_wp2_with (at_builtin
                     refine wpList_app _ rfl (.tmp 27) (.tmp 29) 65 rfl elem_frame (by rfl) ((((Hx.out.go FrOk Hn2.out.2.1).go FrOk ((Kept.refl [] _).alloc _)).go FrOk ((Kept.refl [] _).alloc _)).own) (by rfl) Hsrc.out rfl (by simp [Value.oneCell']) (by unfold maxLen; rw [Hln.out]; omega) (by rw [Hln.out]; omega) ?_
                     intro v5 w5 ho5 hk5 hr5
                     have hk4 : Kept [] w2 ((w2.alloc (.cells #[.int .i64 f.kind, .int .i64 f.ver, .slice A2 n2 c2] 59)).alloc (.cells #[.int .i64 f.kind, .int .i64 f.ver, .slice A2 n2 c2] 59)) := ((Kept.refl [] w2).alloc _).alloc _
                     have hrd := (RdB.of_own Hn2.out.1).kept hk4 (by simp)
                     have hx5 := Hx.out.app FrOk (Hn2.out.2.1.trans hk4 (by simp)) (css' := [[.int .i64 f.kind, .int .i64 f.ver, .slice A2 n2 c2]]) (l' := [f]) (Decs.one' ⟨A2, n2, c2, rfl, hrd⟩)
                       (fun i hi => ⟨fun hm' => by have h1 := Hx.out.own.lt i hm'; have h2 := Hn2.out.2.2 i hi; omega, Nat.lt_of_lt_of_le (Hn2.out.1.lt i hi) hk4.size⟩) ho5 (by simp) (by simp) hk5 hr5
                     have Hx5 := Lib.hid hx5
                     obtain ⟨A5, n5, c5, rfl⟩ := ho5.form'
                     clear ho5 hk5 hr5 hk4 hrd hx5)
        go_roundg (m - (k + n))
        case measure => omega
        case rel => exact ⟨k + n, l ++ [f], hb2, rfl, by go_num, Hs.out.step Hkb.out Ht.out, ⟨_, _, Hx5.out⟩, by have := Hlk.out; rw [List.length_append, Hln.out]; simp; omega⟩
      · have hres := Lib.hid (Hs.out.err Hkb.out Ht.out he)
        have hne : (e != 0) = true := by simp [he]
        clear he
        go_wp2
        refine bodyPost_ret (by simp [results, Try.results49, go_sem]; rfl) rfl ?_
        rw [hres.out]
        exact ⟨_, rfl, (Hv.out.go FrOk Hn2.out.2.1).go FrOk ((Kept.refl [] _).alloc _)⟩
    · have hres := Lib.hid (Hs.out.done (by rw [Hm.out]; omega))
      go_wp2
      refine bodyPost_ret (by simp [results, Try.results49, go_sem]; rfl) rfl ?_
      rw [hres.out]
      exact ⟨_, rfl, Hv.out⟩
set_option maxHeartbeats 1600000 in
theorem rScan_any (w : World) (G : List Nat) (A : Option Addr) (m c : Nat) (bs : List UInt8) (h : RdB w G (.slice A m c) bs) (hl : m ≤ 1099511627776) :
    Calls Try.prog 50 #[.slice A m c] w fun e w' => ∃ v, e = .returned (.tuple #[v, .int .i64 (scanF bs).2.1, .int .i64 (scanF bs).2.2]) ∧ FrV w w' v (scanF bs).1 := by
  have hm := h.len
  have H := Lib.hid h
  have Hm := Lib.hid hm.1
  have hcm := hm.2.2.1
  have hmc := hm.2.1
  unfold maxLen at hcm
  clear h hm
  go_enter Try.func50, Try.ntmps50
  go_wp2
  go_loopg [5, 6] m (fun g out at' wr => ∃ k l, k ≤ m ∧ g = m - k ∧ at' = .int .i64 (k : Nat) ∧ ScanAt bs l k ∧ FrV w wr out l ∧ 16 * l.length ≤ k)
  case atStart => exact ⟨0, [], by omega, by omega, rfl, ScanAt.start _, LV.nil (Kept.refl _ _), by simp⟩
  case round =>
    obtain ⟨k, l, hk, rfl, rfl, hs, hv, hlk⟩ := hrel
    have Hs := Lib.hid hs
    have Hv := Lib.hid hv
    obtain ⟨css, G', hx⟩ := hv
    obtain ⟨B, cap, rfl, -, -⟩ := hx.own.form
    have Hx := Lib.hid hx
    have hll : l.length ≤ 68719476736 := by omega
    have Hlk := Lib.hid hlk
    generalize hln : l.length = ln at *
    have Hln := Lib.hid hln
    clear hs hx hlk hln
    by_cases hlt : k < m
    · have hkb : k < bs.length := by rw [Hm.out]; exact hlt
      obtain ⟨g, o, rfl, -⟩ := H.out.rd (by intro h0; have := u8s_nil h0; subst this; simp at hkb)
      have hne1 : ¬ c = k := by omega
      have hne2 : ¬ k = c := by omega
      have hne3 : ¬ (c : Int) = (k : Int) := by omega
      have hd := (H.out.kept Hv.out.kept (by simp)).drop k (by omega)
      have hd : RdB wr G (.slice (some ⟨g, o + k, none⟩) (m - k) (c - k)) (bs.drop k) := by simpa [Addr.add_lit] using hd
      have Hd := Lib.hid hd
      have Hkb := Lib.hid hkb
      clear hd hkb
      go_wp2_with fail
      refine (rTake_any _ _ _ _ _ _ Hd.out).mono ?_
      rintro e w2 ⟨v2, rfl, hn2⟩
      obtain ⟨A2, n2, c2, rfl⟩ := hn2.1.form'
      obtain ⟨f, n, e, ht⟩ : ∃ f n e, takeF (bs.drop k) = (f, n, e) := ⟨_, _, _, rfl⟩
      have Ht := Lib.hid ht
      rw [ht] at hn2 ⊢
      dsimp only at hn2 ⊢
      have Hn2 := Lib.hid hn2
      clear hn2 ht
      by_cases he : e = 0
      · subst he
        have hb := take_bound Ht.out (Nat.le_of_lt Hkb.out)
        have hb1 := hb.1
        have hb2 : k + n ≤ m := by rw [← Hm.out]; exact hb.2
        clear hb
        have hs1 : IntKind.i64.wrap ((k : Int) + (n : Int)) = (k : Int) + n := IntWalk.i64_in _ (by omega)
        have hsrc := Rd.laid (w2.alloc (.cells #[.int .i64 f.kind, .int .i64 f.ver, .slice A2 n2 c2] 59)) [.int .i64 f.kind, .int .i64 f.ver, .slice A2 n2 c2] 59
        rw [World.size_alloc] at hsrc
        have Hsrc := Lib.hid hsrc
        clear hsrc
        go_wp2_with (at_builtin
                     refine wpList_app _ rfl (.tmp 27) (.tmp 29) 65 rfl elem_frame (by rfl) ((((Hx.out.go FrOk Hn2.out.2.1).go FrOk ((Kept.refl [] _).alloc _)).go FrOk ((Kept.refl [] _).alloc _)).own) (by rfl) Hsrc.out rfl (by simp [Value.oneCell']) (by unfold maxLen; rw [Hln.out]; omega) (by rw [Hln.out]; omega) ?_
                     intro v5 w5 ho5 hk5 hr5
                     have hk4 : Kept [] w2 ((w2.alloc (.cells #[.int .i64 f.kind, .int .i64 f.ver, .slice A2 n2 c2] 59)).alloc (.cells #[.int .i64 f.kind, .int .i64 f.ver, .slice A2 n2 c2] 59)) := ((Kept.refl [] w2).alloc _).alloc _
                     have hrd := (RdB.of_own Hn2.out.1).kept hk4 (by simp)
                     have hx5 := Hx.out.app FrOk (Hn2.out.2.1.trans hk4 (by simp)) (css' := [[.int .i64 f.kind, .int .i64 f.ver, .slice A2 n2 c2]]) (l' := [f]) (Decs.one' ⟨A2, n2, c2, rfl, hrd⟩)
                       (fun i hi => ⟨fun hm' => by have h1 := Hx.out.own.lt i hm'; have h2 := Hn2.out.2.2 i hi; omega, Nat.lt_of_lt_of_le (Hn2.out.1.lt i hi) hk4.size⟩) ho5 (by simp) (by simp) hk5 hr5
                     have Hx5 := Lib.hid hx5
                     obtain ⟨A5, n5, c5, rfl⟩ := ho5.form'
                     clear ho5 hk5 hr5 hk4 hrd hx5)
        go_roundg (m - (k + n))
        case measure => omega
        case rel => exact ⟨k + n, l ++ [f], hb2, rfl, by go_num, Hs.out.step Hkb.out Ht.out, ⟨_, _, Hx5.out⟩, by have := Hlk.out; rw [List.length_append, Hln.out]; simp; omega⟩
      · have hres := Lib.hid (Hs.out.err Hkb.out Ht.out he)
        have hne : (e != 0) = true := by simp [he]
        clear he
        go_wp2
        refine bodyPost_ret (by simp [results, Try.results50, go_sem]; rfl) rfl ?_
        rw [hres.out]
        exact ⟨_, rfl, (Hv.out.go FrOk Hn2.out.2.1).go FrOk ((Kept.refl [] _).alloc _)⟩
    · have hres := Lib.hid (Hs.out.done (by rw [Hm.out]; omega))
      go_wp2
      refine bodyPost_ret (by simp [results, Try.results50, go_sem]; rfl) rfl ?_
      rw [hres.out]
      exact ⟨_, rfl, Hv.out⟩
end Go.Proofs.Yticjcmjodnedjaa
