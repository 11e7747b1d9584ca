/-
  The walks of FrameTakes, FrameJoins.
-/
import Derived.Test.YticjcmjodnedjaaLawH
namespace Go.Proofs.Yticjcmjodnedjaa
open Go.RowKit Go.ChangeShapes Go.WideShapes Go.Deep
set_option linter.unusedVariables false

set_option maxHeartbeats 3200000 in
theorem FrameTakes_any (w : World) {G0 G1 G2 : List Nat} {A0 A1 A2 : Option Addr} {m0 c0 m1 c1 m2 c2 : Nat} (l : List FrameD) (more : List UInt8) (ps : List Int) (x : UInt8)
    (h0 : FrArr w G0 (.slice A0 m0 c0) l) (h1 : RdB w G1 (.slice A1 m1 c1) more) (h2 : IntArr w G2 (.slice A2 m2 c2) ps) :
    Calls Try.prog 12 #[.slice A0 m0 c0, .slice A1 m1 c1, .slice A2 m2 c2, .int .u8 x.toNat] w fun e w' => e = .returned (.bool true) ∧ Kept [] w w' := by
  have H0 := Lib.hid h0
  have H1 := Lib.hid h1
  have H2 := Lib.hid h2
  clear h0 h1 h2
  by_cases hm1 : m1 ≤ 3000
  · go_enter Try.func12, Try.ntmps12
    go_wp2_with fail
    refine (Bytes_any4 _ l more ps x H0.out H1.out H2.out hm1).mono ?_
    rintro e w1 ⟨v1, bs, rfl, hn1, hbl, -⟩
    generalize hbn : bs.length = bn at *
    obtain ⟨B1, d1, rfl, -, -⟩ := hn1.1.form
    have Hr1 := Lib.hid (RdB.of_own hn1.1)
    have Hk1 := Lib.hid hn1.2.1
    clear hn1 hbn
    obtain ⟨f, n, ee, ht⟩ : ∃ f n ee, takeF bs = (f, n, ee) := ⟨_, _, _, rfl⟩
    have Ht := Lib.hid ht
    clear ht
    go_wp2_with fail
    refine (Take_any _ _ _ _ _ _ Hr1.out).mono ?_
    rintro e w2 ⟨v2, rfl, hn2⟩
    rw [Ht.out] at hn2 ⊢
    dsimp only at hn2 ⊢
    obtain ⟨B2, n2, d2, rfl⟩ := hn2.1.form'
    have hka := (Kept.refl [] w2).alloc (.cells #[.int .i64 f.kind, .int .i64 f.ver, .slice B2 n2 d2] 59)
    have Hb2 := Lib.hid (Blk.new w2 59 #[.int .i64 f.kind, .int .i64 f.ver, .slice B2 n2 d2])
    have Hk2 := Lib.hid ((Hk1.out.trans hn2.2.1 (by simp)).trans hka (by simp))
    have Hr12 := Lib.hid ((Hr1.out.kept hn2.2.1 (by simp)).kept hka (by simp))
    have Hr22 := Lib.hid ((RdB.of_own hn2.1).kept hka (by simp))
    clear hn2 hka
    go_wp2_with fail
    refine (rTake_any _ _ _ _ _ _ Hr12.out).mono ?_
    rintro e w3 ⟨v3, rfl, hn3⟩
    rw [Ht.out] at hn3 ⊢
    dsimp only at hn3 ⊢
    obtain ⟨B3, n3, d3, rfl⟩ := hn3.1.form'
    have hka := (Kept.refl [] w3).alloc (.cells #[.int .i64 f.kind, .int .i64 f.ver, .slice B3 n3 d3] 59)
    have hk3 := hn3.2.1.trans hka (by simp)
    have hb3 := Hb2.out.kept hk3 (by simp)
    obtain ⟨b0, b1, b2⟩ := hb3.at3
    have hlt3 := Hb2.out.lt
    have hsz3 := hn3.2.1.size
    rw [World.size_alloc] at hsz3
    have Hk3 := Lib.hid (Hk2.out.trans hk3 (by simp))
    have Hr13 := Lib.hid (Hr12.out.kept hk3 (by simp))
    have Hr23 := Lib.hid (Hr22.out.kept hk3 (by simp))
    have Hr33 := Lib.hid ((RdB.of_own hn3.1).kept hka (by simp))
    clear hn3 hka hk3 hb3 hlt3
    go_wp2_with fail
    refine (rSame_any _ f f Hr23.out Hr33.out).mono ?_
    rintro e w4 ⟨rfl, hk4⟩
    rw [sameF_refl]
    have Hk4 := Lib.hid (Hk3.out.trans hk4 (by simp))
    have Hr14 := Lib.hid (Hr13.out.kept hk4 (by simp))
    clear hk4 b0 b1 b2 hsz3
    obtain ⟨ll, k, e', hs⟩ : ∃ ll k e', scanF bs = (ll, k, e') := ⟨_, _, _, rfl⟩
    have Hs := Lib.hid hs
    clear hs
    go_wp2_with fail
    refine (Scan_any _ _ _ _ _ _ Hr14.out (by omega)).mono ?_
    rintro e w5 ⟨v5, rfl, hv5⟩
    rw [Hs.out] at hv5 ⊢
    dsimp only at hv5 ⊢
    obtain ⟨G5, ha5, hg5⟩ := hv5.arr FrOk
    obtain ⟨B5, n5, d5, rfl, -⟩ := id ha5
    have Ha5 := Lib.hid ha5
    have Hk5 := Lib.hid (Hk4.out.trans hv5.kept (by simp))
    have Hr15 := Lib.hid (Hr14.out.kept hv5.kept (by simp))
    clear hv5 ha5 hg5
    go_wp2_with fail
    refine (rScan_any _ _ _ _ _ _ Hr15.out (by omega)).mono ?_
    rintro e w6 ⟨v6, rfl, hv6⟩
    rw [Hs.out] at hv6 ⊢
    dsimp only at hv6 ⊢
    obtain ⟨G6, ha6, hg6⟩ := hv6.arr FrOk
    obtain ⟨B6, n6, d6, rfl, -⟩ := id ha6
    have Ha6 := Lib.hid ha6
    have Ha56 := Lib.hid (FrArr.kept Ha5.out hv6.kept (by simp))
    have Hk6 := Lib.hid (Hk5.out.trans hv6.kept (by simp))
    clear hv6 ha6 hg6
    go_wp2_with (first
      | (go_at_call 51
         refine (rSames_any _ ll ll Ha56.out Ha6.out).mono ?_
         rintro e w7 ⟨rfl, hk7⟩
         rw [sameFs_refl]
         have Hk7 := Lib.hid (Hk6.out.trans hk7 (by simp))
         clear hk7)
      | (go_at_call 42
         refine (awake4_any _).mono ?_
         rintro e w8 ⟨rfl, hk8⟩
         have Hk8 := Lib.hid (Hk7.out.trans hk8 (by simp))
         clear hk8))
    go_ret
    exact ⟨rfl, Hk8.out⟩
  · go_enter Try.func12, Try.ntmps12
    go_wp2_with fail
    refine (awake4_any _).mono ?_
    rintro e w1 ⟨rfl, hk1⟩
    have Hk1 := Lib.hid hk1
    clear hk1
    go_wp2
    go_ret
    exact ⟨rfl, Hk1.out⟩

/-- the frames that are put, and may be -/
def okF (l : List FrameD) : List FrameD := (selF l).filter fun f => decide (putE f = 0)
theorem join_ok (l : List FrameD) : joinF l = joinF (l.filter fun f => decide (putE f = 0)) := by
  induction l with
  | nil => rfl
  | cons f l ih =>
    rw [joinF_cons, List.filter_cons]
    by_cases h : putE f = 0
    · rw [if_pos (by simpa using h), joinF_cons, ih]
    · rw [if_neg (by simpa using h), ih, show putF f = [] by simp [putF, h], List.nil_append]
theorem okF_ok (l : List FrameD) : ∀ f ∈ okF l, putE f = 0 := fun f hf => by simpa using (List.mem_filter.1 hf).2
theorem scan_ok (l : List FrameD) : scanF (joinF (selF l)) = (okF l, (joinF (selF l)).length, 0) := by
  have h := scan_join (okF l) [] (okF_ok l)
  rw [List.append_nil, scanF_nil] at h
  rw [join_ok (selF l)]
  simpa [okF] using h
theorem scan_ok2 (l l' : List FrameD) : scanF (joinF (selF l) ++ joinF (selF l')) = (okF l ++ okF l', (joinF (selF l)).length + (joinF (selF l')).length, 0) := by
  have h := scan_join (okF l) (joinF (selF l')) (okF_ok l)
  rw [scan_ok] at h
  rw [join_ok (selF l)]
  simpa [okF] using h

set_option maxHeartbeats 3200000 in
theorem FrameJoins_any (w : World) {G0 G1 : List Nat} {A0 A1 : Option Addr} {m0 c0 m1 c1 : Nat} (l l' : List FrameD)
    (h0 : FrArr w G0 (.slice A0 m0 c0) l) (h1 : FrArr w G1 (.slice A1 m1 c1) l') :
    Calls Try.prog 14 #[.slice A0 m0 c0, .slice A1 m1 c1] w fun e w' => e = .returned (.bool true) ∧ Kept [] w w' := by
  have H0 := Lib.hid h0
  have H1 := Lib.hid h1
  clear h0 h1
  have hni : ∀ w : World, IntArr w [] (.slice none 0 0) [] := fun w => ⟨none, 0, 0, rfl, rfl, by omega, by unfold maxLen; omega, by simp, by simp⟩
  have Hni := Lib.hid hni
  clear hni
  go_enter Try.func14, Try.ntmps14
  go_wp2_with fail
  refine (Bytes_any4 _ l [] [] 0 H0.out (RdB.nil _ []) (Hni.out _) (by omega)).mono ?_
  rintro e w1 ⟨v1, b1, rfl, hn1, hbl1, hj1⟩
  obtain rfl := hj1 rfl rfl
  have S1 := Lib.hid (scan_ok l)
  have S3 := Lib.hid (scan_ok2 l l')
  generalize joinF (selF l) = b1 at *
  generalize hb1 : b1.length = n1 at *
  obtain ⟨B1, d1, rfl, -, -⟩ := hn1.1.form
  have Hn1 := Lib.hid hn1
  have Hb1 := Lib.hid hb1
  clear hn1 hj1 hb1
  go_wp2_with fail
  refine (Bytes_any4 _ l' [] [] 0 (H1.out.kept Hn1.out.2.1 (by simp)) (RdB.nil _ []) (Hni.out _) (by omega)).mono ?_
  rintro e w2 ⟨v2, b2, rfl, hn2, hbl2, hj2⟩
  obtain rfl := hj2 rfl rfl
  have S2 := Lib.hid (scan_ok l')
  generalize joinF (selF l') = b2 at *
  generalize hb2 : b2.length = n2 at *
  obtain ⟨B2, d2, rfl, -, -⟩ := hn2.1.form
  have Hn2 := Lib.hid hn2
  have Hn12 := Lib.hid (Hn1.out.go hn2.2.1)
  have Hb2 := Lib.hid hb2
  clear hn2 hj2 hb2
  go_wp2_with fail
  refine (Scan_any _ _ _ _ _ _ (RdB.of_own Hn12.out.1) (by omega)).mono ?_
  rintro e w3 ⟨v3, rfl, hv3⟩
  rw [S1.out] at hv3 ⊢
  dsimp only at hv3 ⊢
  obtain ⟨G3, ha3, hlt3⟩ := hv3.arr FrOk
  obtain ⟨B3, n3, d3, rfl, -⟩ := id ha3
  have Ha3 := Lib.hid ha3
  have Hn13 := Lib.hid (Hn12.out.go hv3.kept)
  have Hn23 := Lib.hid (Hn2.out.go hv3.kept)
  clear hv3 ha3
  go_wp2_with fail
  refine (Scan_any _ _ _ _ _ _ (RdB.of_own Hn23.out.1) (by omega)).mono ?_
  rintro e w4 ⟨v4, rfl, hv4⟩
  rw [S2.out] at hv4 ⊢
  dsimp only at hv4 ⊢
  obtain ⟨G4, ha4, hlt4⟩ := hv4.arr FrOk
  have h34 := hv4.kept.size
  obtain ⟨B4, n4, d4, rfl, -⟩ := id ha4
  have Ha4 := Lib.hid ha4
  have Ha34 := Lib.hid (FrArr.kept Ha3.out hv4.kept (by simp))
  have Hn14 := Lib.hid (Hn13.out.go hv4.kept)
  have Hn24 := Lib.hid (Hn23.out.go hv4.kept)
  clear hv4 ha4
  have h5 := World.ownsRow_made (e := 5) (size := 1) (base := 0) w4 #[] 0 (Nat.zero_le _) (by unfold maxLen; omega) rfl
  have Hn5 : Hid (New w4 5 1 (.slice (some ⟨w4.heap.size, 0, none⟩) 0 0) 0 (u8s []) (w4.alloc (.cells #[] 5))) := Lib.hid ⟨h5, (Kept.refl [] w4).alloc _, fun k hk => by simp [rowOf, Value.ownBlock] at hk; omega⟩
  clear h5
  have hka := (Kept.refl [] w4).alloc (.cells #[] 5)
  have Hr1 := Lib.hid ((RdB.of_own Hn14.out.1).kept hka (by simp))
  have Hr2 := Lib.hid ((RdB.of_own Hn24.out.1).kept hka (by simp))
  have Hd1 := Lib.hid (Hn14.out.1.lt)
  have Hd2 := Lib.hid (Hn24.out.1.lt)
  clear hka
  go_wp2_with (first
    | (at_builtin
       refine wpList_app _ rfl (.tmp 33) (.tmp 34) 24 rfl elem_u8 (by rfl) Hn5.out.1 (by rfl) Hr1.out.rd (by rw [u8s_len, Hb1.out, Nat.mul_one]) (u8s_one _) (by unfold maxLen; omega) (by omega) ?_
       intro v5 w5 ho5 hk5 hr5
       have hn5 := Hn5.out.app ho5 hk5 hr5
       rw [List.nil_append] at hn5
       have Hn6 := Lib.hid hn5
       have Hr26 := Lib.hid (Hr2.out.kept hk5 (fun k hk hm => by have := Hd2.out k hk; simp [rowOf, Value.ownBlock] at hm; omega))
       obtain ⟨B5, n5, d5, rfl⟩ := hn5.1.form'
       clear ho5 hk5 hr5 hn5)
    | (at_builtin
       refine wpList_app _ rfl (.tmp 35) (.tmp 36) 24 rfl elem_u8 (by rfl) Hn6.out.1 (by rfl) Hr26.out.rd (by rw [u8s_len, Hb2.out, Nat.mul_one]) (u8s_one _) (by unfold maxLen; omega) (by omega) ?_
       intro v7 w7 ho7 hk7 hr7
       have hn7 := Hn6.out.app ho7 hk7 hr7
       rw [show 0 + n1 + n2 = n1 + n2 by omega] at hn7
       have Hn7 := Lib.hid hn7
       obtain ⟨B7, d7, rfl, -, -⟩ := hn7.1.form
       clear ho7 hk7 hr7 hn7))
  refine (Scan_any _ _ _ _ _ _ (RdB.of_own Hn7.out.1) (by omega)).mono ?_
  rintro e w8 ⟨v8, rfl, hv8⟩
  rw [S3.out] at hv8 ⊢
  dsimp only at hv8 ⊢
  have hk8 := Hn7.out.2.1.trans hv8.kept (by simp)
  obtain ⟨G8, ha8, -⟩ := hv8.arr FrOk
  obtain ⟨B8, n8, d8, rfl, -⟩ := id ha8
  have Ha8 := Lib.hid ha8
  have ha4 := FrArr.kept Ha4.out hk8 (by simp)
  have ha3 := FrArr.kept Ha34.out hk8 (by simp)
  clear hv8 ha8
  have Hk8 := Lib.hid (Hn14.out.2.1.trans hk8 (by simp))
  obtain ⟨x1, x2, x3, css3, e3, l3, y31, y32, y33, dd3, len3, rd3⟩ := ArrOf.decs ha3
  obtain ⟨z1, z2, z3, css4, e4, l4, y41, y42, y43, dd4, len4, rd4⟩ := ArrOf.decs ha4
  injection e3 with e31 e32 e33
  subst e31 e32 e33
  injection e4 with e41 e42 e43
  subst e41 e42 e43
  have D3 := Lib.hid dd3
  have D4 := Lib.hid dd4
  have Rd3 := Lib.hid rd3
  have Rd4 := Lib.hid rd4
  have Ln3 := Lib.hid (show css3.flatten.length = n3 * 3 by rw [flat_len len3, dd3.1, l3])
  have Ln4 := Lib.hid (show css4.flatten.length = n4 * 3 by rw [flat_len len4, dd4.1, l4])
  have L3 := Lib.hid l3
  have L4 := Lib.hid l4
  have hb3 : n3 * 16 ≤ n1 := by
    have h := (scanF_len _ b1 (Nat.le_refl _)).2
    rw [S1.out, Hb1.out] at h
    dsimp only at h
    omega
  have hb4 : n4 * 16 ≤ n2 := by
    have h := (scanF_len _ b2 (Nat.le_refl _)).2
    rw [S2.out, Hb2.out] at h
    dsimp only at h
    omega
  have hn3 : n3 ≤ 425 := by omega
  have hn4 : n4 ≤ 425 := by omega
  have Hg3 := Lib.hid (show ∀ k ∈ G3, k < w8.heap.size from fun k hk => Nat.lt_of_lt_of_le (hlt3 k hk) (Nat.le_trans h34 hk8.size))
  have Hg4 := Lib.hid (show ∀ k ∈ G4, k < w8.heap.size from fun k hk => Nat.lt_of_lt_of_le (hlt4 k hk) hk8.size)
  clear dd3 dd4 rd3 rd4 l3 l4 len3 len4 ha3 ha4 y31 y32 y33 y41 y42 y43 hb3 hb4 hlt3 hlt4 h34
  go_wp2_with (first
    | (at_builtin
       refine wpList_app_g _ (by go_simp) (.const (.slice none 0 0)) (.tmp 73) 65 rfl elem_frame (by rfl) (Own.nil _ _ _) (by rfl) Rd3.out Ln3.out (D3.out.ones FrOk) (by unfold maxLen; omega) (by omega) ?_
       intro v9 w9 ho9 hk9 hr9
       have hx9 := LVx.app (W := w8) (w := w8) (w1 := w8) FrOk (css := []) (G := []) (l := []) ⟨Own.nil _ _ _, by simp [rowOf, Value.ownBlock], Decs.nil, by simp, Kept.refl _ _⟩ (Kept.refl _ _) D3.out (fun k hk => ⟨by simp [rowOf, Value.ownBlock], Hg3.out k hk⟩) ho9 (by simp [L3.out]) rfl hk9 hr9
       have Hx9 := Lib.hid hx9
       have Hk9 := Lib.hid hx9.keptW
       obtain ⟨B9, n9, d9, rfl⟩ := ho9.form'
       clear ho9 hk9 hr9 hx9)
    | (at_builtin
       refine wpList_app_g _ (by go_simp) (.tmp 74) (.tmp 75) 65 rfl elem_frame (by rfl) Hx9.out.own (by rfl) (Rd4.out.kept Hk9.out (by simp)) Ln4.out (D4.out.ones FrOk) (by unfold maxLen; rw [List.nil_append, L3.out]; omega) (by rw [List.nil_append, L3.out]; omega) ?_
       intro v10 w10 ho10 hk10 hr10
       have hx10 := Hx9.out.app FrOk (Kept.refl _ _) (D4.out.kept FrOk Hk9.out (by simp)) (fun k hk => ⟨fun hm => by have h1 := Hx9.out.new k hm; have h2 := Hg4.out k hk; omega, Nat.lt_of_lt_of_le (Hg4.out k hk) Hk9.out.size⟩) ho10 (by simp [L3.out, L4.out]) rfl hk10 hr10
       rw [List.nil_append] at hx10
       have Hx10 := Lib.hid (hx10.arr FrOk)
       have Hk10 := Lib.hid hx10.keptW
       obtain ⟨B10, n10, d10, rfl⟩ := ho10.form'
       clear ho10 hk10 hr10 hx10)
    | (go_at_call 51
       refine (rSames_any _ _ _ (FrArr.kept Ha8.out Hk10.out (by simp)) Hx10.out).mono ?_
       rintro e w11 ⟨rfl, hk11⟩
       rw [sameFs_refl]
       have Hk11 := Lib.hid ((Hk8.out.trans Hk10.out (by simp)).trans hk11 (by simp))
       clear hk11)
    | (go_at_call 42
       refine (awake4_any _).mono ?_
       rintro e w12 ⟨rfl, hk12⟩
       have Hk12 := Lib.hid (Hk11.out.trans hk12 (by simp))
       clear hk12))
  go_ret
  exact ⟨rfl, Hk12.out⟩

theorem FrameTakes_walk {H : Type} {enc : TypeId × Value → H} {S : Prop} (W : World) (base : Nat) (v0 : Value) (d0 : DataW H) (p0 : List MemPlace) (v1 : Value) (d1 : DataW H) (p1 : List MemPlace) (v2 : Value) (d2 : DataW H) (p2 : List MemPlace) (v3 : Value) (d3 : DataW H) (p3 : List MemPlace)
    (hv0 : Value.okWide Try.prog W .any base 65 v0) (hv1 : Value.okWide Try.prog W .any base 24 v1) (hv2 : Value.okWide Try.prog W .any base 66 v2) (hv3 : Value.okWide Try.prog W .any base 5 v3)
    (h0 : DataW.Trod enc Try.prog W 0 (fun _ => true) true 65 v0 d0 p0) (h1 : DataW.Trod enc Try.prog W 0 (fun _ => true) true 24 v1 d1 p1) (h2 : DataW.Trod enc Try.prog W 0 (fun _ => true) true 66 v2 d2 p2) (h3 : DataW.Trod enc Try.prog W 0 (fun _ => true) true 5 v3 d3 p3) (_ : S) :
    Calls Try.prog 12 #[v0, v1, v2, v3] W fun e W' => e = .returned (.bool true) ∧ Below W.heap.size W W' := by
  obtain ⟨l, hl, _⟩ := open_frames hv0 h0
  obtain ⟨A1, m1, c1, bs, rfl, hb, _⟩ := open_bytes_arr hv1 h1
  obtain ⟨ps, hp, _⟩ := open_ints_arr hv2 h2
  obtain ⟨x, rfl⟩ := open_u8 hv3 h3
  obtain ⟨A0, m0, c0, rfl, _⟩ := id hl
  obtain ⟨A2, m2, c2, rfl, _⟩ := id hp
  exact (FrameTakes_any W l bs ps x hl hb hp).mono fun e W' ⟨h, hk⟩ => ⟨h, hk.below (Nat.le_refl _) (by simp)⟩
theorem FrameJoins_walk {H : Type} {enc : TypeId × Value → H} {S : Prop} (W : World) (base : Nat) (v0 : Value) (d0 : DataW H) (p0 : List MemPlace) (v1 : Value) (d1 : DataW H) (p1 : List MemPlace)
    (hv0 : Value.okWide Try.prog W .any base 65 v0) (hv1 : Value.okWide Try.prog W .any base 65 v1)
    (h0 : DataW.Trod enc Try.prog W 0 (fun _ => true) true 65 v0 d0 p0) (h1 : DataW.Trod enc Try.prog W 0 (fun _ => true) true 65 v1 d1 p1) (_ : S) :
    Calls Try.prog 14 #[v0, v1] W fun e W' => e = .returned (.bool true) ∧ Below W.heap.size W W' := by
  obtain ⟨l, hl, _⟩ := open_frames hv0 h0
  obtain ⟨l', hl', _⟩ := open_frames hv1 h1
  obtain ⟨A0, m0, c0, rfl, _⟩ := id hl
  obtain ⟨A1, m1, c1, rfl, _⟩ := id hl'
  exact (FrameJoins_any W l l' hl hl').mono fun e W' ⟨h, hk⟩ => ⟨h, hk.below (Nat.le_refl _) (by simp)⟩
end Go.Proofs.Yticjcmjodnedjaa
