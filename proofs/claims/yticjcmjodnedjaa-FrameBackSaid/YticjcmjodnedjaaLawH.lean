/-
  The walks of FramePuts, FrameSame, FrameLong.
-/
import Derived.Test.YticjcmjodnedjaaFrameA
namespace Go.Proofs.Yticjcmjodnedjaa
open Go.RowKit Go.ChangeShapes Go.WideShapes Go.Deep
set_option linter.unusedVariables false

theorem Blk.at3 {w : World} {g : Nat} {t : TypeId} {a b c : Value} (h : Blk w g t #[a, b, c]) : w.cell? ⟨g, 0, none⟩ = some a ∧ w.cell? ⟨g, 1, none⟩ = some b ∧ w.cell? ⟨g, 2, none⟩ = some c :=
  ⟨by simpa using h.cell 0, by simpa using h.cell 1, by simpa using h.cell 2⟩

set_option maxHeartbeats 1600000 in
theorem FramePuts_any (w : World) (G : List Nat) (A : Option Addr) (m c : Nat) (f : FrameD) (h : RdB w G (.slice A m c) f.body) :
    Calls Try.prog 10 #[.agg #[.int .i64 f.kind, .int .i64 f.ver, .slice A m c]] w fun e w' => e = .returned (.bool true) ∧ Kept [] w w' := by
  have H := Lib.hid h
  have Hb := Lib.hid (Blk.new w 59 #[.int .i64 f.kind, .int .i64 f.ver, .slice A m c])
  have K0 := Lib.hid ((Kept.refl [] w).alloc (.cells #[.int .i64 f.kind, .int .i64 f.ver, .slice A m c] 59))
  clear h
  go_enter Try.func10, Try.ntmps10
  go_wp2_with fail
  refine (Put_any _ _ _ _ _ f (H.out.kept K0.out (by simp))).mono ?_
  rintro e w1 ⟨v1, rfl, hn1⟩
  have Hk1 := Lib.hid (K0.out.trans hn1.2.1 (by simp))
  obtain ⟨b0, b1, b2⟩ := (Hb.out.kept hn1.2.1 (by simp)).at3
  have Hb1 := Lib.hid (Hb.out.kept hn1.2.1 (by simp))
  have ho1 := hn1.1
  generalize (putF f).length = pn at *
  obtain ⟨A1, c1, rfl, -, -⟩ := ho1.form
  have Ho1 := Lib.hid ho1
  clear hn1 ho1
  go_wp2_with fail
  refine (rPut_any _ _ _ _ _ f (H.out.kept Hk1.out (by simp))).mono ?_
  rintro e w2 ⟨v2, rfl, hn2⟩
  have Hk2 := Lib.hid (Hk1.out.trans hn2.2.1 (by simp))
  have hb2 := Hb1.out.kept hn2.2.1 (by simp)
  clear b0 b1 b2
  obtain ⟨b0, b1, b2⟩ := hb2.at3
  have q1 := run_str (RdB.of_own (Ho1.out.kept hn2.2.1 (by simp)))
  have ho2 := hn2.1
  generalize (putF f).length = pn2 at *
  obtain ⟨A2, c2, rfl, -, -⟩ := ho2.form
  have q2 := run_str (RdB.of_own ho2)
  have t1 := strOf_toList (putF f)
  clear hn2 ho2 hb2
  go_wp2_with (first
    | (go_at_call 45
       refine (Same_any _ f f (H.out.kept Hk2.out (by simp)) (H.out.kept Hk2.out (by simp))).mono ?_
       rintro e w3 ⟨rfl, hk3⟩
       rw [sameF_refl]
       have Hk3 := Lib.hid (Hk2.out.trans hk3 (by simp))
       clear hk3)
    | (go_at_call 42
       refine (awake4_any _).mono ?_
       rintro e w4 ⟨rfl, hk4⟩
       have Hk4 := Lib.hid (Hk3.out.trans hk4 (by simp))
       clear hk4))
  go_ret
  exact ⟨rfl, Hk4.out⟩

set_option maxHeartbeats 1600000 in
theorem FrameSame_any (w : World) (G1 G2 : List Nat) (A B : Option Addr) (m c n d : Nat) (f g : FrameD) (h1 : RdB w G1 (.slice A m c) f.body) (h2 : RdB w G2 (.slice B n d) g.body) :
    Calls Try.prog 11 #[.agg #[.int .i64 f.kind, .int .i64 f.ver, .slice A m c], .agg #[.int .i64 g.kind, .int .i64 g.ver, .slice B n d]] w fun e w' => e = .returned (.bool true) ∧ Kept [] w w' := by
  have H1 := Lib.hid h1
  have H2 := Lib.hid h2
  have hba := (Blk.new w 59 #[.int .i64 f.kind, .int .i64 f.ver, .slice A m c]).alloc (.cells #[.int .i64 g.kind, .int .i64 g.ver, .slice B n d] 59)
  have hbb := Blk.new (w.alloc (.cells #[.int .i64 f.kind, .int .i64 f.ver, .slice A m c] 59)) 59 #[.int .i64 g.kind, .int .i64 g.ver, .slice B n d]
  rw [World.size_alloc] at hbb
  have K0 := Lib.hid (((Kept.refl [] w).alloc (.cells #[.int .i64 f.kind, .int .i64 f.ver, .slice A m c] 59)).alloc (.cells #[.int .i64 g.kind, .int .i64 g.ver, .slice B n d] 59))
  have Ba := Lib.hid hba
  have Bb := Lib.hid hbb
  have Hcm := Lib.hid (sameF_comm g f)
  clear h1 h2 hba hbb
  go_enter Try.func11, Try.ntmps11
  go_wp2
  go_region_held3 (fun w' => Kept [] ((w.alloc (.cells #[.int .i64 f.kind, .int .i64 f.ver, .slice A m c] 59)).alloc (.cells #[.int .i64 g.kind, .int .i64 g.ver, .slice B n d] 59)) w' ∧ w'.cell? ⟨w.heap.size, 0, none⟩ = some (.int .i64 f.kind) ∧ w'.cell? ⟨w.heap.size, 1, none⟩ = some (.int .i64 f.ver) ∧ w'.cell? ⟨w.heap.size, 2, none⟩ = some (.slice A m c) ∧ w'.cell? ⟨w.heap.size + 1, 0, none⟩ = some (.int .i64 g.kind) ∧ w'.cell? ⟨w.heap.size + 1, 1, none⟩ = some (.int .i64 g.ver) ∧ w'.cell? ⟨w.heap.size + 1, 2, none⟩ = some (.slice B n d))
    (first | exact ⟨(Kept.refl [] _).drew, Ba.out.at3.1, Ba.out.at3.2.1, Ba.out.at3.2.2, Bb.out.at3.1, Bb.out.at3.2.1, Bb.out.at3.2.2⟩ | exact ⟨hkn, (Ba.out.kept hkn (by simp)).at3.1, (Ba.out.kept hkn (by simp)).at3.2.1, (Ba.out.kept hkn (by simp)).at3.2.2, (Bb.out.kept hkn (by simp)).at3.1, (Bb.out.kept hkn (by simp)).at3.2.1, (Bb.out.kept hkn (by simp)).at3.2.2⟩)
    (first
      | (go_at_call 46
         rename_i hq _ _
         refine (rSame_any _ f g (H1.out.kept (K0.out.trans hq.1 (by simp)) (by simp)) (H2.out.kept (K0.out.trans hq.1 (by simp)) (by simp))).mono ?_
         rintro e w3 ⟨rfl, hk3⟩
         have hkn := hq.1.trans hk3 (by simp)
         clear hk3)
      | (go_at_call 45
         rename_i hq _ _
         first
           | (with_reducible refine (Same_any _ f g (H1.out.kept (K0.out.trans hq.1 (by simp)) (by simp)) (H2.out.kept (K0.out.trans hq.1 (by simp)) (by simp))).mono ?_)
           | (with_reducible refine (Same_any _ g f (H2.out.kept (K0.out.trans hq.1 (by simp)) (by simp)) (H1.out.kept (K0.out.trans hq.1 (by simp)) (by simp))).mono ?_)
         rintro e w3 ⟨rfl, hk3⟩
         try rw [Hcm.out]
         have hkn := hq.1.trans hk3 (by simp)
         clear hk3)
      | (go_at_call 42
         rename_i hq _ _
         refine (awake4_any _).mono ?_
         rintro e w3 ⟨rfl, hk3⟩
         have hkn := hq.1.trans hk3 (by simp)
         clear hk3))
  go_wp2
  go_ret
  exact ⟨rfl, K0.out.trans hkn (by simp)⟩

theorem run_zeros (w : World) (n : Nat) (hn : n ≤ 140737488355328) : ∃ w', (Instr.makeSlice 24 (.int .i64 (n : Int)) (.int .i64 (n : Int))).run Try.prog w = .ok (.slice (some ⟨w.heap.size, 0, none⟩) n n) w' ∧
    New w 5 1 (.slice (some ⟨w.heap.size, 0, none⟩) n n) n (u8s (List.replicate n 0)) w' := by
  obtain ⟨i, h1, h2, h3, h4⟩ := info_parts info_u8
  obtain ⟨w', hr, ho, hg⟩ := run_make_full (P := Try.prog) w 0 24 5 i (.int .u8 0) 1 Try.underlying24 h1 h2 h3 .i64 .i64 n (by rw [h4]; omega) (by unfold maxLen; omega) (Nat.zero_le _)
  refine ⟨w', hr, ?_, (Kept.refl [] w).grown hg (fun k hk => by cases hk), fun k hk => by simp [rowOf, Value.ownBlock] at hk; omega⟩
  have e : (madeCells (Value.int .u8 0).cells (n * 1)).toList = u8s (List.replicate n 0) := by
    apply List.ext_getElem
    · simp [u8s, size_madeCells]
    · intro j h1 h2
      simp [u8s, madeCells, Value.cells, u8v, Nat.mod_one] at h1 ⊢
  rw [← e]; exact ho
set_option maxHeartbeats 1600000 in
theorem FrameLong_any (w : World) (n : Int) :
    Calls Try.prog 9 #[.int .i64 n] w fun e w' => e = .returned (.bool true) ∧ Kept [] w w' := by
  have hw := wrap_u64 n
  obtain ⟨N, hN⟩ : ∃ N : Nat, 4094 + ((nat64 n : Nat) : Int) % 5 = (N : Int) := ⟨4094 + nat64 n % 5, by omega⟩
  have hN1 : 4094 ≤ N := by omega
  have hN2 : N ≤ 4098 := by omega
  obtain ⟨w1, hmk, hn1⟩ := run_zeros w N (by omega)
  have HN := Lib.hid hN
  rw [← hN] at hmk
  have Hn1 := Lib.hid hn1
  clear hN hn1
  go_enter Try.func9, Try.ntmps9
  go_wp2_with fail
  clear hmk
  refine (Put_any _ _ _ _ _ ⟨2, 1, List.replicate N 0⟩ (RdB.of_own Hn1.out.1)).mono ?_
  rintro e w2 ⟨v2, rfl, hn2⟩
  simp only [HN.out]
  clear hw
  by_cases hl : N ≤ 4096
  · have he : putE ⟨2, 1, List.replicate N 0⟩ = 0 := by simp [putE]; omega
    have hpl := putF_len he
    have ht := take_put ⟨2, 1, List.replicate N 0⟩ [] he
    rw [List.append_nil] at ht
    rw [he]
    simp only [List.length_replicate] at hpl ht
    rw [hpl] at hn2
    obtain ⟨A2, c2, rfl, -, -⟩ := hn2.1.form
    have Hn2 := Lib.hid hn2
    have Ht := Lib.hid ht
    clear hn2 ht he hpl
    have hs := IntWalk.i64_in ((N : Int) + 16) (by omega)
    go_wp2_with fail
    refine (Take_any _ _ _ _ _ _ (RdB.of_own Hn2.out.1)).mono ?_
    rintro e w3 ⟨v3, rfl, hn3⟩
    rw [Ht.out] at hn3 ⊢
    dsimp only at hn3 ⊢
    rw [List.length_replicate] at hn3
    obtain ⟨A3, c3, rfl, -, -⟩ := hn3.1.form
    have Hk3 := Lib.hid (Hn1.out.2.1.trans (Hn2.out.2.1.trans hn3.2.1 (by simp)) (by simp))
    clear hn3
    have hx : ((16 + N : Nat) : Int) = (N : Int) + 16 := by omega
    rw [hx]
    clear hx
    go_wp2_with (go_at_call 42
                 refine (awake4_any _).mono ?_
                 rintro e w4 ⟨rfl, hk4⟩
                 have Hk4 := Lib.hid ((Hk3.out.alloc (.cells #[.int .i64 2, .int .i64 1, .slice A3 N c3] 59)).trans hk4 (by simp))
                 clear hk4)
    go_ret
    exact ⟨rfl, Hk4.out⟩
  · have he : putE ⟨2, 1, List.replicate N 0⟩ = 4 := by simp [putE]; omega
    have hf : putF ⟨2, 1, List.replicate N 0⟩ = [] := by simp [putF, he]
    rw [he]
    rw [hf] at hn2
    obtain ⟨A2, c2, rfl, -, -⟩ := hn2.1.form
    have Hk2 := Lib.hid (Hn1.out.2.1.trans hn2.2.1 (by simp))
    clear hn2 hf he
    go_wp2_with (go_at_call 42
                 refine (awake4_any _).mono ?_
                 rintro e w4 ⟨rfl, hk4⟩
                 have Hk4 := Lib.hid (Hk2.out.trans hk4 (by simp))
                 clear hk4)
    go_ret
    exact ⟨rfl, Hk4.out⟩

theorem FramePuts_walk {H : Type} {enc : TypeId × Value → H} {S : Prop} (W : World) (base : Nat) (v0 : Value) (d0 : DataW H) (p0 : List MemPlace)
    (hv0 : Value.okWide Try.prog W .any base 59 v0) (h0 : DataW.Trod enc Try.prog W 0 (fun _ => true) true 59 v0 d0 p0) (_ : S) :
    Calls Try.prog 10 #[v0] W fun e W' => e = .returned (.bool true) ∧ Below W.heap.size W W' := by
  obtain ⟨f, A, m, c, rfl, hr, _⟩ := open_frame hv0 h0
  exact (FramePuts_any W _ A m c f hr).mono fun e W' ⟨h, hk⟩ => ⟨h, hk.below (Nat.le_refl _) (by simp)⟩
theorem FrameSame_walk {H : Type} {enc : TypeId × Value → H} {S : Prop} (W : World) (base : Nat) (v0 : Value) (d0 : DataW H) (p0 : List MemPlace) (v1 : Value) (d1 : DataW H) (p1 : List MemPlace)
    (hv0 : Value.okWide Try.prog W .any base 59 v0) (hv1 : Value.okWide Try.prog W .any base 59 v1)
    (h0 : DataW.Trod enc Try.prog W 0 (fun _ => true) true 59 v0 d0 p0) (h1 : DataW.Trod enc Try.prog W 0 (fun _ => true) true 59 v1 d1 p1) (_ : S) :
    Calls Try.prog 11 #[v0, v1] W fun e W' => e = .returned (.bool true) ∧ Below W.heap.size W W' := by
  obtain ⟨f, A, m, c, rfl, hr, _⟩ := open_frame hv0 h0
  obtain ⟨g, B, n, d, rfl, hr', _⟩ := open_frame hv1 h1
  exact (FrameSame_any W _ _ A B m c n d f g hr hr').mono fun e W' ⟨h, hk⟩ => ⟨h, hk.below (Nat.le_refl _) (by simp)⟩
theorem FrameLong_walk {H : Type} {enc : TypeId × Value → H} {S : Prop} (W : World) (base : Nat) (v0 : Value) (d0 : DataW H) (p0 : List MemPlace)
    (hv0 : Value.okWide Try.prog W .any base 3 v0) (h0 : DataW.Trod enc Try.prog W 0 (fun _ => true) true 3 v0 d0 p0) (_ : S) :
    Calls Try.prog 9 #[v0] W fun e W' => e = .returned (.bool true) ∧ Below W.heap.size W W' := by
  obtain ⟨n, rfl, rfl, rfl, _⟩ := open_int Try.underlying3 hv0 h0
  exact (FrameLong_any W n).mono fun e W' ⟨h, hk⟩ => ⟨h, hk.below (Nat.le_refl _) (by simp)⟩
end Go.Proofs.Yticjcmjodnedjaa
