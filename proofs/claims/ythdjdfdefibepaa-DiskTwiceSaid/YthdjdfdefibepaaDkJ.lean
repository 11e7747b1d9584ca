
/-
  The disk: a crash.
-/
import Derived.Test.YthdjdfdefibepaaDkI
import Derived.BigRegion
namespace Go.Proofs.Ythdjdfdefibepaa
open Go.RowKit Go.ChangeShapes Go.WideShapes Go.ChangeAt Go.Deep Go.MapKept
set_option linter.unusedVariables false

theorem okRun_at {n : Nat} : ∀ {m : List (Bs × Nat)} {l : List ChD}, okRun n m l → ∀ (j : Nat) (c : ChD), l[j]? = some c → okC n (runC m (l.take j)) c
  | m, [], _, j, c, h => by simp at h
  | m, d :: l, ⟨h1, h2⟩, 0, c, h => by
    have : d = c := by simpa using h
    subst this; exact h1
  | m, d :: l, ⟨h1, h2⟩, j + 1, c, h => by
    rw [List.take_succ_cons]
    exact okRun_at h2 j c (by simpa using h)
theorem runC_snoc (m : List (Bs × Nat)) (l : List ChD) (c : ChD) : runC m (l ++ [c]) = doD (runC m l) c := by unfold runC; rw [List.foldl_append]; rfl
theorem doD_ids {n : Nat} {m : List (Bs × Nat)} {c : ChD} (hc : okC n m c) (h : ∀ q ∈ m, q.2 < n) : ∀ q ∈ doD m c, q.2 < n := by
  have hput : ∀ (m : List (Bs × Nat)) (x : Bs) (i : Nat), (∀ q ∈ m, q.2 < n) → i < n → ∀ q ∈ putM m x i, q.2 < n := by
    intro m x i hm hi q hq
    unfold putM at hq
    split at hq
    · obtain ⟨r, hr, rfl⟩ := List.mem_map.1 hq
      split
      · exact hi
      · exact hm r hr
    · rcases List.mem_append.1 hq with hq | hq
      · exact hm q hq
      · obtain rfl : q = _ := by simpa using hq
        exact hi
  have hdel : ∀ (m : List (Bs × Nat)) (x : Bs), (∀ q ∈ m, q.2 < n) → ∀ q ∈ delM m x, q.2 < n := fun m x hm q hq => hm q (List.mem_filter.1 hq).1
  unfold doD
  rcases hc with ⟨hk, i, hf, hi⟩ | ⟨hk, hf, hs, _⟩ | ⟨hk, hf⟩
  · rw [if_pos hk, hf]; exact hput m _ i h hi
  · rw [if_neg (by rw [hk]; decide), if_pos hk]
    obtain ⟨i, hi⟩ := Option.isSome_iff_exists.1 hs
    rw [hi]
    exact hdel _ _ (hput m _ i h (h (c.name, i) (getM_mem hi)))
  · rw [if_neg (by rw [hk]; decide), if_neg (by rw [hk]; decide), if_pos hk]
    exact hdel _ _ h
theorem doD_nodup {m : List (Bs × Nat)} (c : ChD) (h : (m.map (·.1)).Nodup) : ((doD m c).map (·.1)).Nodup := by
  unfold doD
  split
  · split
    · exact put_nodup h _ _
    · exact h
  · split
    · split
      · exact del_nodup (put_nodup h _ _) _
      · exact h
    · split
      · exact del_nodup h _
      · exact h
theorem runC_ids {n : Nat} : ∀ (l : List ChD) {m : List (Bs × Nat)}, okRun n m l → (∀ q ∈ m, q.2 < n) → ∀ (k : Nat), ∀ q ∈ runC m (l.take k), q.2 < n
  | [], m, _, h, k => by simpa [runC] using h
  | c :: l, m, ⟨h1, h2⟩, h, 0 => by simpa [runC] using h
  | c :: l, m, ⟨h1, h2⟩, h, k + 1 => by
    rw [List.take_succ_cons]
    exact runC_ids l h2 (doD_ids h1 h) k
theorem doD_len (m : List (Bs × Nat)) (c : ChD) : (doD m c).length ≤ m.length + 1 := by
  have hp : ∀ (x : Bs) (i : Nat), (putM m x i).length ≤ m.length + 1 := fun x i => by rw [put_len]; split <;> omega
  unfold doD
  split
  · split
    · exact hp _ _
    · omega
  · split
    · split
      · exact Nat.le_trans (del_len_le _ _) (hp _ _)
      · omega
    · split
      · exact Nat.le_trans (del_len_le _ _) (by omega)
      · omega
theorem runC_len : ∀ (l : List ChD) (m : List (Bs × Nat)), (runC m l).length ≤ m.length + l.length
  | [], m => by simp [runC]
  | c :: l, m => by
    have h1 := runC_len l (doD m c)
    have h2 := doD_len m c
    simp only [List.length_cons]
    show (runC (doD m c) l).length ≤ _
    omega
theorem StrsV.form {W w : World} {v : Value} {l : List Bs} (h : StrsV W w v l) : ∃ A5 c5, v = .slice A5 l.length c5 ∧ ∀ (j : Nat) (x : Bs), l[j]? = some x → ∃ g, A5 = some ⟨g, 0, none⟩ ∧ RowS w g c5 l ∧ W.heap.size ≤ g := by
  rcases h.2 with ⟨rfl, h2⟩ | ⟨g, cap, rfl, h2, h3⟩
  · subst h2
    exact ⟨none, 0, rfl, fun j x hx => by simp at hx⟩
  · exact ⟨some ⟨g, 0, none⟩, cap, rfl, fun j x hx => ⟨g, rfl, h2, h3⟩⟩
theorem Own.cut_file {w : World} {g : Nat} {f : FlE} {A : Option Addr} {c k : Nat} (h : Own w 5 1 (.slice A f.b.length c) f.b.length (u8s f.b)) (hb : Blk w g 71 #[.slice A f.b.length c, .int .i64 (f.sure : Nat)]) (hk : k ≤ f.b.length) (hl : (f.b.take k).length = k) :
    Own ((w.setCell ⟨g, 0, none⟩ (.slice A k c)).setCell ⟨g, 1, none⟩ (.int .i64 (k : Nat))) 5 1 (.slice A k c) (f.b.take k).length (u8s (f.b.take k)) := by
  have h1 : Own w 5 1 (.slice A k c) (f.b.take k).length (u8s (f.b.take k)) := by
    rw [hl]
    rcases Nat.eq_zero_or_pos f.b.length with h0 | h0
    · have hk0 : k = 0 := by omega
      have hb0 : f.b = [] := List.eq_nil_of_length_eq_zero h0
      subst hk0
      rw [h0] at h
      rw [hb0] at h ⊢
      exact h
    · have := Own.cut1 h hk h0
      rw [Nat.mul_one] at this
      rw [show u8s (f.b.take k) = (u8s f.b).take k by simp [u8s, List.map_take]]
      exact this
  have hne : ∀ q ∈ rowOf (.slice A k c), q ≠ g := fun q hq e => by
    subst e
    exact h1.ne_blk hb (by decide) hq
  exact (h1.far (p := ⟨g, 0, none⟩) hne _).far (p := ⟨g, 1, none⟩) hne _
/-- the end of a crash -/
theorem DkX.crash {w w' w2 : World} {G : List Nat} {p : Nat} {fb : List Nat} {D : DkD} {bn bs : Nat} {A : Option Addr} {m c : Nat} (h : DkX w G p fb D bn bs A m c) {b0 b1 : Nat} {nm : List (Bs × Nat)} (h0 : MapB ekS (evF fb) w b0 nm) (hb0 : b0 ∉ G) (hk : Kept [] w w') (hb1 : b1 = w.heap.size) (h1 : MapB ekS (evF fb) w' b1 nm)
    (hB : Blk w2 p 64 #[.int .i64 D.quota, .map (some b0), .map (some b1), .slice none 0 0, .int .i64 D.ops, .int .i64 0]) (hk2 : Kept [p] w' w2) : DkX w2 (b0 :: b1 :: G) p fb { D with now := nm, sur := nm, ch := [], fail := 0 } b0 b1 none 0 0 := by
  have h' := h.go hk
  have hl0 := h0.lt
  have hS : ∀ k ∈ [p], Othr w' k := fun k hk' => by
    obtain rfl : k = p := by simpa using hk'
    exact Othr.of_blk h'.blk (by decide) (by decide)
  have hp0 : b0 ≠ p := fun e => hb0 (e ▸ h.inp)
  have hp1 : b1 ≠ p := fun e => by have := h.lt p h.inp; omega
  refine ⟨hB, (h0.kept hk (by simp)).kept hk2 (by simpa using hp0), h1.kept hk2 (by simpa using hp1), by omega, Own.nil4 w2, (h'.fs.kept hk2 hS).mono (fun k hk' => List.mem_cons_of_mem _ (List.mem_cons_of_mem _ hk')), List.mem_cons_self, List.mem_cons_of_mem _ List.mem_cons_self, List.mem_cons_of_mem _ (List.mem_cons_of_mem _ h.inp), by simp [rowOf, Value.ownBlock], fun k hk' => ?_⟩
  rcases List.mem_cons.1 hk' with rfl | hk'
  · exact Nat.lt_of_lt_of_le hl0 (Nat.le_trans hk.size hk2.size)
  · rcases List.mem_cons.1 hk' with rfl | hk'
    · exact Nat.lt_of_lt_of_le h1.lt hk2.size
    · exact Nat.lt_of_lt_of_le (h'.lt k hk') hk2.size
theorem cutAll_step {nm : List (Bs × Nat)} {NM : List Bs} {j : Nat} {x : Bs} {i : Nat} {f : FlE} {ps : Bs} {fs : List FlE} (hx : NM[j]? = some x) (hi : getM nm x = some i) (hf : fs[i]? = some f) :
    cutAll nm (NM.drop j) ps fs = cutAll nm (NM.drop (j + 1)) (ps.drop 1) (fs.set i ⟨f.b.take (f.sure + pickD ps (f.b.length - f.sure)), f.sure + pickD ps (f.b.length - f.sure)⟩) := by
  obtain ⟨hlt, hx⟩ := List.getElem?_eq_some_iff.1 hx
  rw [List.drop_eq_getElem_cons hlt, hx]
  conv => lhs; unfold cutAll
  simp only [hi, hf]
set_option maxRecDepth 100000 in
set_option maxHeartbeats 16000000 in
theorem Crash_any {w : World} {G : List Nat} {p : Nat} {fb : List Nat} {D : DkD} {bn bs : Nat} {A : Option Addr} {m c : Nat} (h : DkX w G p fb D bn bs A m c) (ok : OkI D) (ho : D.ops ≤ 400000) (hrun : okRun D.files.length D.sur D.ch) (ps : Bs) {Gp : List Nat} {P : Option Addr} {pm pc : Nat} (hp : RdB w Gp (.slice P pm pc) ps) (hpG : ∀ k ∈ Gp, k ∉ G) (hpl : ∀ k ∈ Gp, k < w.heap.size) :
    Calls Try.prog 24 #[.pointer (some ⟨p, 0, none⟩), .slice P pm pc] w fun e w' => e = .returned (.tuple #[]) ∧ DkOp w G p (craD D ps) w' := by
  obtain ⟨Ax, cx, hv, hcx, hcm⟩ := h.row.form
  injection hv with e1 e2 e3
  subst e1 e2 e3
  unfold maxLen at hcm
  have K0 := Lib.hid ((Kept.refl [] w).alloc (.cells #[.slice P pm pc] 28))
  have GP0 := Lib.hid (Blk.new w 28 #[.slice P pm pc])
  have X0 := Lib.hid (h.go K0.out)
  have RP0 := Lib.hid (hp.kept K0.out (by simp))
  have HL := Lib.hid h.lt
  have HPG := Lib.hid hpG
  have HPL := Lib.hid hpl
  have OK := Lib.hid ok
  have RUN := Lib.hid hrun
  have CHL := Lib.hid (show D.ch.length ≤ 1000000 by have := ok.nl.2.2.1; omega)
  have HB0S := Lib.hid (show (w.alloc (.cells #[.slice P pm pc] 28)).heap.size = w.heap.size + 1 by simp)
  obtain ⟨n, hn⟩ : ∃ n, D.ch.length = n := ⟨_, rfl⟩
  have HN := Lib.hid hn
  have hnl : n ≤ 1000000 := by have := CHL.out; omega
  obtain ⟨k, hk⟩ : ∃ k, pickD ps n = k := ⟨_, rfl⟩
  have HK := Lib.hid hk
  have hkn : k ≤ n := by rw [← hk]; exact pickD_le ps n
  rw [hn] at X0 hcx
  clear h hp hpG hpl ok hrun hk hn
  go_enter Try.func24, Try.ntmps24
  go_upto_region 3 with fail
  generalize w.alloc (.cells #[.slice P pm pc] 28) = w0 at *
  have hc := X0.out.blk.cell
  have hl := X0.out.blk.lt
  go_upto_region 4 with (first
    | (go_at_call 43
       refine (CloneP_any X0.out.sur).mono ?_
       rintro e w1 ⟨rfl, hm1, hk1⟩
       have M1 := Lib.hid hm1
       have K1 := Lib.hid (K0.out.trans hk1 (by simp))
       have X1 := Lib.hid (X0.out.go hk1)
       have GP1 := Lib.hid (GP0.out.kept hk1 (by simp))
       have RP1 := Lib.hid (RP0.out.kept hk1 (by simp))
       clear hm1 hk1 hc hl))
  have hb0G : w0.heap.size ∉ G := fun hm => by have := HL.out _ hm; have := HB0S.out; omega
  have hgpG : w.heap.size ∉ G := fun hm => by have := HL.out _ hm; omega
  have HB0 := Lib.hid hb0G
  have HGP := Lib.hid hgpG
  have HGPP := Lib.hid (fun (hm : w.heap.size ∈ Gp) => by have := HPL.out _ hm; omega : w.heap.size ∉ Gp)
  clear hb0G hgpG
  have PK := Lib.hid (fun (w' : World) (hk : Kept [] w1 w') => pick_any w' ps (GP1.out.kept hk (by simp)) (RP1.out.kept hk (by simp)) HGPP.out n (by omega))
  have KA : Hid (Kept [] w1 w1.drew) := Lib.hid ((Kept.refl [] w1).drew)
  have hc := X1.out.blk.cell
  have hl := X1.out.blk.lt
  have j0 : (0 : Int) ≤ (k : Int) := by omega
  have j1 : (k : Int) ≤ (c : Int) := by omega
  go_cut [30, 31, 32] (fun u v i wx => u = .slice A k c ∧ v = .int .i64 (k : Nat) ∧ i = .int .i64 0 ∧ ∃ P2 m2 c2, Blk wx w.heap.size 28 #[.slice P2 m2 c2] ∧ RdB wx Gp (.slice P2 m2 c2) (ps.drop 1) ∧ Kept [w.heap.size] w1 wx)
  case first =>
    go_region_law ((first
      | (go_simp
         go_at_call 44
         with_reducible refine (PK.out w1.drew KA.out).mono ?_
         go_must (rintro e w2 ⟨rfl, hk2, P2, m2, c2, hb2, hr2⟩)
         go_must (rw [HK.out])
         go_must (have B2 := Lib.hid hb2)
         go_must (have R2 := Lib.hid hr2)
         go_must (have K2 := Lib.hid ((KA.out.mono (by simp)).trans hk2 (fun i hi => .inl hi) : Kept [w.heap.size] w1 w2))
         go_must (have hc2 := (X1.out.far K2.out (fun q hq hm => HGP.out (by simp at hq; subst hq; exact hm))).blk.cell)
         clear hk2 hb2 hr2)))
    all_goals
      go_wp2_with fail
      go_meet
      show _ = Value.slice A k c ∧ _
      exact ⟨rfl, rfl, rfl, P2, m2, c2, B2.out, R2.out, K2.out⟩
  case rest =>
    obtain ⟨rfl, rfl, rfl, P2, m2, c2, hb2, hr2, hk2⟩ := hcut
    have B2 := Lib.hid hb2
    have R2 := Lib.hid hr2
    have K2 := Lib.hid hk2
    have X2 := Lib.hid (X1.out.far hk2 (fun q hq hm => HGP.out (by simp at hq; subst hq; exact hm)))
    have M2 := Lib.hid (M1.out.kept hk2 (by have := HB0S.out; simp; omega))
    clear hb2 hr2 hk2 hc hl j0 j1 PK KA
    go_wp2
    go_loopg [32] k (fun gg i wr => ∃ j : Nat, j ≤ k ∧ gg = k - j ∧ i = .int .i64 (j : Nat) ∧ MapB ekS (evF fb) wr w0.heap.size (runC D.sur (D.ch.take j)) ∧ Kept [w0.heap.size] wc wr)
    case atStart => exact ⟨0, by omega, by omega, rfl, M2.out, Kept.refl _ _⟩
    case round =>
      obtain ⟨j, hj, rfl, rfl, hmm, hkw⟩ := hrel
      have MM := Lib.hid hmm
      have KW := Lib.hid hkw
      have hb0l := hmm.lt
      clear hmm hkw
      by_cases hlt : j < k
      · obtain ⟨cc, hcc⟩ : ∃ cc, D.ch[j]? = some cc := ⟨_, List.getElem?_eq_getElem (by rw [HN.out]; omega)⟩
        have HCC := Lib.hid (okRun_at RUN.out j cc hcc)
        have HRC := Lib.hid (show runC D.sur (D.ch.take (j + 1)) = doD (runC D.sur (D.ch.take j)) cc by rw [List.take_add_one, hcc, Option.toList_some, runC_snoc])
        have X3 := Lib.hid (X2.out.far KW.out (fun q hq hm => HB0.out (by simp at hq; subst hq; exact hm)))
        obtain ⟨g, rfl, hrow⟩ : ∃ g, A = some ⟨g, 0, none⟩ ∧ RowAt 76 4 (chC fb) wr g c D.ch := by
          rcases RowAt.of_own (chC_len fb) (X3.out.row) rfl with ⟨_, h2⟩ | ⟨g, cap, h1, h2⟩
          · rw [h2] at hcc; simp at hcc
          · injection h1 with e1 e2 e3
            subst e1 e3
            exact ⟨g, rfl, h2⟩
        have q0 := hrow.cell hcc (c := 0) (v := .int .i64 cc.kind) rfl
        have q1 := hrow.cell hcc (c := 1) (v := .string (strOf cc.name)) rfl
        have q2 := hrow.cell hcc (c := 2) (v := .string (strOf cc.dst)) rfl
        have q3 := hrow.cell hcc (c := 3) (v := .pointer (cc.f.map fun i => ⟨fbA fb i, 0, none⟩)) rfl
        rw [Nat.add_zero] at q0
        have hgl := hrow.lt
        have i0 : (0 : Int) ≤ (j : Int) := by omega
        have i1 : (j : Int) < (k : Int) := by omega
        have iw : IntKind.i64.wrap ((j : Int) + 1) = (j : Int) + 1 := IntWalk.i64_in _ (by omega)
        have DOC := Lib.hid (fun (w' : World) (hk : Kept [] wr w') => show Calls Try.prog 45 #[.agg #[.int .i64 cc.kind, .string (strOf cc.name), .string (strOf cc.dst), .pointer (cc.f.map fun i => ⟨fbA fb i, 0, none⟩)], .map (some w0.heap.size)] w' fun e w2 => e = .returned (.tuple #[]) ∧ MapB ekS (evF fb) w2 w0.heap.size (doD (runC D.sur (D.ch.take j)) cc) ∧ Kept [w0.heap.size] w' w2 from
          do_any w' fb w0.heap.size _ (MM.out.kept hk (by simp)) cc HCC.out)
        have HALL := Lib.hid (show (#[Value.int .i64 cc.kind, .string (strOf cc.name), .string (strOf cc.dst), .pointer (cc.f.map fun i => ⟨fbA fb i, 0, none⟩)] : Array Value).all (·.oneCell') = true by simp [Value.oneCell'])
        generalize Value.pointer (cc.f.map fun i => ⟨fbA fb i, 0, none⟩) = pv at *
        clear hrow hcc
        go_wp2_with (first
          | (((with_reducible show wpList _ _ _ ({ dst := none, op := Op.store 76 (.tmp 7) (.tmp 35), type := _, pos := _, after := _, guard := _ } :: _) _ _); refine wpList_put (t := 76) rfl 76 (.tmp 7) (.tmp 35) rfl _ (by rfl) (by rfl) (by (repeat (first | (apply Blk.new'; simp; done) | apply Blk.alloc | apply Blk.drew))) (by rfl) (by kernel_rfl) HALL.out ?_; intro w5 hb5 hk5; have Hb5 := Lib.hid hb5; have Hk5 := Lib.hid hk5; clear hb5 hk5)
             have K5 := Lib.hid (((Kept.refl [] wr).alloc _).trans Hk5.out (fun i hi => .inr (by simp at hi; omega)) : Kept [] wr w5)
             have hx5 := Hb5.out.cell)
          | (go_at_call 45
             with_reducible refine (DOC.out w5 K5.out).mono ?_
             rintro e w6 ⟨rfl, hm6, hk6⟩
             have M6 := Lib.hid hm6
             have K6 := Lib.hid ((KW.out.trans K5.out (by simp)).trans hk6 (fun i hi => .inl hi))
             clear hm6 hk6 hx5))
        go_roundg (k - (j + 1))
        case measure => omega
        case rel => exact ⟨j + 1, by omega, rfl, by go_num, by rw [HRC.out]; exact M6.out, K6.out⟩
      · obtain rfl : k = j := by omega
        have i1 : ¬ (k : Int) < (k : Int) := by omega
        have HNM := Lib.hid (show craN D ps = runC D.sur (D.ch.take k) by unfold craN; rw [HN.out, HK.out])
        have NLN := Lib.hid (show (runC D.sur (D.ch.take k)).length ≤ 1000000 by
          have h1 := runC_len (D.ch.take k) D.sur
          have h2 : (D.ch.take k).length ≤ D.ch.length := by rw [List.length_take]; omega
          have h3 := OK.out.nl.2.1
          have h4 := OK.out.nl.2.2.1
          omega)
        have IDS := Lib.hid (runC_ids D.ch RUN.out OK.out.sur k)
        generalize runC D.sur (D.ch.take k) = nm at *
        have X3 := Lib.hid (X2.out.far KW.out (fun q hq hm => HB0.out (by simp at hq; subst hq; exact hm)))
        have B3 := Lib.hid (B2.out.kept KW.out (by have := HB0S.out; simp; omega))
        have R3 := Lib.hid (R2.out.kept KW.out (fun q hq hm => by have := HPL.out q hq; have := HB0S.out; simp at hm; omega))
        have K3 := Lib.hid ((K1.out.trans K2.out (fun i hi => .inr (by simp at hi; omega))).trans KW.out (fun i hi => .inr (by have := HB0S.out; simp at hi; omega)))
        have KS := Lib.hid (KeysS_any wr w0.heap.size)
        have BA := Blk.new wr 61 #[.map (some w0.heap.size)]
        have SO := Lib.hid (SortedS_any (wr.alloc (.cells #[.map (some w0.heap.size)] 61)) wr.heap.size w0.heap.size fb nm NLN.out (BA.cell 0) BA.lt (MM.out.alloc _))
        clear BA
        go_upto_region 10 with (first
          | (go_at_call 37
             refine KS.out.mono ?_
             rintro e w4 ⟨rfl, rfl⟩)
          | (go_at_call 36
             refine SO.out.mono ?_
             rintro e w5 ⟨v, rfl, hs⟩
             obtain ⟨A5, c5, rfl, hrw⟩ := hs.form
             have HRW := Lib.hid hrw
             have KA5 := Lib.hid (((Kept.refl [] wr).alloc _).trans hs.1 (by simp) : Kept [] wr w5)
             clear hs hrw))
        obtain ⟨NM, hNM⟩ : ∃ N, srtN (nm.map (·.1)) = N := ⟨_, rfl⟩
        have HNP := Lib.hid (show NM.Perm (nm.map (·.1)) by rw [← hNM]; exact srtN_perm _)
        have HNS := Lib.hid hNM
        rw [hNM] at HRW
        simp only [hNM]
        clear hNM
        have NML := Lib.hid (show NM.length ≤ 1000000 by rw [HNP.out.length_eq, List.length_map]; exact NLN.out)
        have NOD := Lib.hid MM.out.nodup
        obtain ⟨N, hNN⟩ : ∃ N, NM.length = N := ⟨_, rfl⟩
        have HNN := Lib.hid hNN
        simp only [hNN]
        have hN6 : N ≤ 1000000 := by have := NML.out; omega
        clear hNN
        have X5 := Lib.hid (X3.out.go KA5.out)
        have B5 := Lib.hid (B3.out.kept KA5.out (by simp))
        have R5 := Lib.hid (R3.out.kept KA5.out (by simp))
        have M5 := Lib.hid (MM.out.kept KA5.out (by simp))
        have K5 := Lib.hid (K3.out.trans KA5.out (by simp))
        have HRW2 : Hid (∀ (j : Nat) (x : Bs), NM[j]? = some x → ∃ g, A5 = some ⟨g, 0, none⟩ ∧ RowS w5 g c5 NM ∧ g ∉ w.heap.size :: G) := Lib.hid (fun j x hx => by
          obtain ⟨g, e, h2, h3⟩ := HRW.out j x hx
          refine ⟨g, e, h2, fun hm => ?_⟩
          have hsz : w.heap.size < wr.heap.size := B3.out.lt
          rcases List.mem_cons.1 hm with h9 | h9
          · simp at h3; omega
          · have := HL.out g h9; simp at h3; omega)
        go_loopg [44] N (fun gg i wy => ∃ (j : Nat) (fs : List FlE) (qs : Bs), j ≤ N ∧ gg = N - j ∧ i = .int .i64 (j : Nat) ∧ DkX wy G p fb { D with files := fs } bn bs A n c ∧ (∃ P3 m3 c3, Blk wy w.heap.size 28 #[.slice P3 m3 c3] ∧ RdB wy Gp (.slice P3 m3 c3) qs) ∧ Kept (w.heap.size :: G) w5 wy ∧ cutAll nm (NM.drop j) qs fs = cutAll nm NM (ps.drop 1) D.files ∧ fs.length = D.files.length ∧ ∀ f ∈ fs, f.sure ≤ f.b.length ∧ f.b.length ≤ 1048576)
        case atStart => exact ⟨0, D.files, ps.drop 1, by omega, by omega, rfl, X5.out, ⟨P2, m2, c2, B5.out, R5.out⟩, Kept.refl _ _, rfl, rfl, OK.out.sure⟩
        case round =>
          obtain ⟨j, fs, qs, hj, rfl, rfl, hxx, ⟨P3, m3, c3, hb3, hr3⟩, hkw5, hcut5, hfl5, hok5⟩ := hrel
          have XX := Lib.hid hxx
          have BB := Lib.hid hb3
          have RR := Lib.hid hr3
          have KW5 := Lib.hid hkw5
          have CUT := Lib.hid hcut5
          have FLN := Lib.hid hfl5
          have OK5 := Lib.hid hok5
          have MY := Lib.hid (M5.out.kept hkw5 (fun hm => by
            rcases List.mem_cons.1 hm with h9 | h9
            · have := HB0S.out; omega
            · exact HB0.out h9))
          clear hxx hb3 hr3 hkw5 hcut5 hfl5 hok5
          by_cases hlt : j < N
          · obtain ⟨x, hx⟩ : ∃ x, NM[j]? = some x := ⟨_, List.getElem?_eq_getElem (by rw [HNN.out]; exact hlt)⟩
            obtain ⟨g2, rfl, hrow, hg2⟩ := HRW2.out j x hx
            obtain ⟨i, hi⟩ : ∃ i, getM nm x = some i := by
              have h1 : x ∈ nm.map (·.1) := HNP.out.mem_iff.1 (List.mem_of_getElem? hx)
              obtain ⟨q, hq, rfl⟩ := List.mem_map.1 h1
              exact ⟨q.2, getM_of_mem NOD.out hq⟩
            have hil : i < fs.length := by rw [FLN.out]; exact IDS.out (x, i) (getM_mem hi)
            obtain ⟨f, hf⟩ : ∃ f, fs[i]? = some f := ⟨_, List.getElem?_eq_getElem hil⟩
            obtain ⟨hfs, hfb⟩ := OK5.out f (List.mem_of_getElem? hf)
            have hrow' := hrow.kept KW5.out hg2
            have q0 := hrow'.cell hx (c := 0) (v := .string (strOf x)) rfl
            rw [Nat.mul_one, Nat.add_zero] at q0
            have hgl := hrow'.lt
            have hlk := look_ekS MY.out x
            rw [hi] at hlk
            simp only [Option.map_some] at hlk
            obtain ⟨A2, c7, _, hgG, hfbk, hfo, hfr⟩ := XX.out.fs.get hf
            have FBK := Lib.hid hfbk
            have FO := Lib.hid hfo
            have FR := Lib.hid hfr
            obtain ⟨g, hgg⟩ : ∃ g, fbA fb i = g := ⟨_, rfl⟩
            have HGG := Lib.hid hgg
            rw [hgg] at FBK hgG hlk
            have hfc := FBK.out.cell
            have hff := FBK.out.frozen
            have hfl := FBK.out.lt
            obtain ⟨d, hd⟩ : ∃ d, f.b.length - f.sure = d := ⟨_, rfl⟩
            obtain ⟨tt, htt⟩ : ∃ tt, pickD qs d = tt := ⟨_, rfl⟩
            have htd : tt ≤ d := by rw [← htt]; exact pickD_le qs d
            obtain ⟨kk, hkk⟩ : ∃ kk, f.sure + tt = kk := ⟨_, rfl⟩
            have hkl : kk ≤ f.b.length := by omega
            have STEP := Lib.hid (cutAll_step (ps := qs) hx hi hf)
            rw [hd, htt, hkk] at STEP
            have HTT := Lib.hid htt
            have HF := Lib.hid hf
            have i0 : (0 : Int) ≤ (j : Int) := by omega
            have i1 : (j : Int) < (N : Int) := by omega
            have iw : IntKind.i64.wrap ((j : Int) + 1) = (j : Int) + 1 := IntWalk.i64_in _ (by omega)
            have iw1 : IntKind.i64.wrap (d : Int) = (d : Int) := IntWalk.i64_in _ (by omega)
            have iw2 : IntKind.i64.wrap (kk : Int) = (kk : Int) := IntWalk.i64_in _ (by omega)
            have ed : (f.b.length : Int) - (f.sure : Int) = (d : Int) := by omega
            have ek : (f.sure : Int) + (tt : Int) = (kk : Int) := by omega
            have j0 : (0 : Int) ≤ (kk : Int) := by omega
            obtain ⟨A9, c9, hv9, hc9, hcm9⟩ := FO.out.form
            injection hv9 with z1 z2 z3
            subst z1 z3
            clear z2
            have j1 : (kk : Int) ≤ (c7 : Int) := by omega
            unfold maxLen at hcm9
            have HD := Lib.hid (show d ≤ 1048576 by omega)
            have PK := Lib.hid (fun (w' : World) (hk : Kept [] wr w') => pick_any w' qs (BB.out.kept hk (by simp)) (RR.out.kept hk (by simp)) HGPP.out d (by have := HD.out; omega))
            have KA : Hid (Kept [] wr wr.drew) := Lib.hid ((Kept.refl [] wr).drew)
            have LK := Lib.hid (show (f.b.take kk).length = kk by rw [List.length_take]; omega)
            have hkl' := hkl
            clear hx hi hrow hrow' hf hfbk hfo hfr hgg hd htt hkk
            go_upto_region 13 with fail
            -- region 13
            refine wp_region_held_drew (S := (fun w' => w'.cell? ⟨g, 1, none⟩ = some (.int .i64 (f.sure : Nat)))) (by kernel_rfl) ?_ (fun hHeld => ?_)
            focus (first | exact (Blk.drew FBK.out).cell 1 | exact F6.out.cell 1 | exact (Blk.set F6.out 0 _).cell 1)
            refine wpAnyH_take (i := 0) (oi := ⟨some 51, _, _, _, _, _⟩) (v := ?v0) rfl (by kernel_rfl) (by kernel_rfl) (by kernel_rfl) (fun _ _ _ h => h) (Or.inl ⟨by kernel_rfl, ?hy0⟩) (by assumption) ?rest0
            case hy0 => (intro w9 hSw; (try dsimp only at hSw); go_simp; (try with_reducible rfl))
            simp only [Act.put, List.setIfInBounds_toArray, List.set_cons_zero, List.set_cons_succ]
            refine wpAnyH_take (i := 1) (oi := ⟨some 52, _, _, _, _, _⟩) (v := ?v1) rfl (by kernel_rfl) (by kernel_rfl) (by kernel_rfl) (fun _ _ _ h => h) (Or.inl ⟨by kernel_rfl, ?hy1⟩) (by assumption) ?rest1
            case hy1 => (intro w9 hSw; (try dsimp only at hSw); go_simp; (try with_reducible rfl))
            simp only [Act.put, List.setIfInBounds_toArray, List.set_cons_zero, List.set_cons_succ]
            refine wpAnyH_take (i := 2) (oi := ⟨some 53, _, _, _, _, _⟩) (v := ?v2) rfl (by kernel_rfl) (by kernel_rfl) (by kernel_rfl) (fun _ _ _ h => h) (Or.inl ⟨by kernel_rfl, ?hy2⟩) (by assumption) ?rest2
            case hy2 => (intro w9 hSw; (try dsimp only at hSw); go_simp; (try with_reducible rfl))
            simp only [Act.put, List.setIfInBounds_toArray, List.set_cons_zero, List.set_cons_succ]
            refine wpAnyH_take (i := 3) (oi := ⟨some 54, _, _, _, _, _⟩) (v := ?v3) rfl (by kernel_rfl) (by kernel_rfl) (by kernel_rfl) (fun _ _ _ h => h) (Or.inl ⟨by kernel_rfl, ?hy3⟩) (by assumption) ?rest3
            case hy3 => (intro w9 hSw; (try dsimp only at hSw); go_simp; (try with_reducible rfl))
            simp only [Act.put, List.setIfInBounds_toArray, List.set_cons_zero, List.set_cons_succ]
            refine wpAnyH_take (i := 5) (oi := ⟨some 56, _, _, _, _, _⟩) (v := ?v5) rfl (by kernel_rfl) (by kernel_rfl) (by kernel_rfl) (fun _ _ _ h => h) (Or.inl ⟨by kernel_rfl, ?hy5⟩) (by assumption) ?rest5
            case hy5 => (intro w9 hSw; (try dsimp only at hSw); go_simp; (try with_reducible rfl))
            simp only [Act.put, List.setIfInBounds_toArray, List.set_cons_zero, List.set_cons_succ]
            refine wpAnyH_take (i := 6) (oi := ⟨some 57, _, _, _, _, _⟩) (v := ?v6) rfl (by kernel_rfl) (by kernel_rfl) (by kernel_rfl) (fun _ _ _ h => h) (Or.inl ⟨by kernel_rfl, ?hy6⟩) (by assumption) ?rest6
            case hy6 => (intro w9 hSw; (try dsimp only at hSw); go_simp; (try with_reducible rfl))
            simp only [Act.put, List.setIfInBounds_toArray, List.set_cons_zero, List.set_cons_succ]
            refine wpAnyH_take (i := 7) (oi := ⟨some 58, _, _, _, _, _⟩) (v := ?v7) rfl (by kernel_rfl) (by kernel_rfl) (by kernel_rfl) (fun _ _ _ h => h) (Or.inl ⟨by kernel_rfl, ?hy7⟩) (by assumption) ?rest7
            case hy7 => (intro w9 hSw; (try dsimp only at hSw); go_simp; (try with_reducible rfl))
            simp only [Act.put, List.setIfInBounds_toArray, List.set_cons_zero, List.set_cons_succ]
            refine wpAnyH_take (i := 8) (oi := ⟨some 59, _, _, _, _, _⟩) (v := ?v8) rfl (by kernel_rfl) (by kernel_rfl) (by kernel_rfl) (fun _ _ _ h => h) (Or.inl ⟨by kernel_rfl, ?hy8⟩) (by assumption) ?rest8
            case hy8 => (intro w9 hSw; (try dsimp only at hSw); go_simp; (try with_reducible rfl))
            simp only [Act.put, List.setIfInBounds_toArray, List.set_cons_zero, List.set_cons_succ]
            refine wpAnyH_take (i := 9) (oi := ⟨some 60, _, _, _, _, _⟩) (v := ?v9) rfl (by kernel_rfl) (by kernel_rfl) (by kernel_rfl) (fun _ _ _ h => h) (Or.inl ⟨by kernel_rfl, ?hy9⟩) (by assumption) ?rest9
            case hy9 => (intro w9 hSw; (try dsimp only at hSw); go_simp; (try with_reducible rfl))
            simp only [Act.put, List.setIfInBounds_toArray, List.set_cons_zero, List.set_cons_succ]
            refine wpAnyH_take (i := 10) (oi := ⟨some 61, _, _, _, _, _⟩) (v := ?v10) rfl (by kernel_rfl) (by kernel_rfl) (by kernel_rfl) (fun _ _ _ h => h) (Or.inl ⟨by kernel_rfl, ?hy10⟩) (by assumption) ?rest10
            case hy10 => (intro w9 hSw; (try dsimp only at hSw); go_simp; (try with_reducible rfl))
            simp only [Act.put, List.setIfInBounds_toArray, List.set_cons_zero, List.set_cons_succ]
            refine wpAnyH_take (i := 11) (oi := ⟨some 62, _, _, _, _, _⟩) (v := ?v11) rfl (by kernel_rfl) (by kernel_rfl) (by kernel_rfl) (fun _ _ _ h => h) (Or.inl ⟨by kernel_rfl, ?hy11⟩) (by assumption) ?rest11
            case hy11 => (intro w9 hSw; (try dsimp only at hSw); go_simp; (try with_reducible rfl))
            simp only [Act.put, List.setIfInBounds_toArray, List.set_cons_zero, List.set_cons_succ]
            refine wpAnyH_take (i := 12) (oi := ⟨some 63, _, _, _, _, _⟩) (v := ?v12) rfl (by kernel_rfl) (by kernel_rfl) (by kernel_rfl) (fun _ _ _ h => h) (Or.inl ⟨by kernel_rfl, ?hy12⟩) (by assumption) ?rest12
            case hy12 => (intro w9 hSw; (try dsimp only at hSw); go_simp; (try with_reducible rfl))
            simp only [Act.put, List.setIfInBounds_toArray, List.set_cons_zero, List.set_cons_succ]
            refine wpAnyH_take (i := 15) (oi := ⟨some 66, _, _, _, _, _⟩) (v := ?v15) rfl (by kernel_rfl) (by kernel_rfl) (by kernel_rfl) (fun _ _ _ h => h) (Or.inl ⟨by kernel_rfl, ?hy15⟩) (by assumption) ?rest15
            case hy15 => (intro w9 hSw; (try dsimp only at hSw); go_simp; (try with_reducible rfl))
            simp only [Act.put, List.setIfInBounds_toArray, List.set_cons_zero, List.set_cons_succ]
            refine wpAnyH_take (i := 16) (oi := ⟨some 67, _, _, _, _, _⟩) (v := ?v16) rfl (by kernel_rfl) (by kernel_rfl) (by kernel_rfl) (fun _ _ _ h => h) (Or.inl ⟨by kernel_rfl, ?hy16⟩) (by assumption) ?rest16
            case hy16 => (intro w9 hSw; (try dsimp only at hSw); go_simp; (try with_reducible rfl))
            simp only [Act.put, List.setIfInBounds_toArray, List.set_cons_zero, List.set_cons_succ]
            refine wpAnyH_take (i := 17) (oi := ⟨some 68, _, _, _, _, _⟩) (v := ?v17) rfl (by kernel_rfl) (by kernel_rfl) (by kernel_rfl) (fun _ _ _ h => h) (Or.inl ⟨by kernel_rfl, ?hy17⟩) (by assumption) ?rest17
            case hy17 => (intro w9 hSw; (try dsimp only at hSw); go_simp; (try with_reducible rfl))
            simp only [Act.put, List.setIfInBounds_toArray, List.set_cons_zero, List.set_cons_succ]
            refine wpAnyH_take (i := 18) (oi := ⟨some 69, _, _, _, _, _⟩) (v := ?v18) rfl (by kernel_rfl) (by kernel_rfl) (by kernel_rfl) (fun _ _ _ h => h) (Or.inl ⟨by kernel_rfl, ?hy18⟩) (by assumption) ?rest18
            case hy18 => (intro w9 hSw; (try dsimp only at hSw); go_simp; (try with_reducible rfl))
            simp only [Act.put, List.setIfInBounds_toArray, List.set_cons_zero, List.set_cons_succ]
            refine wpAnyH_ready (rs := [4, 13]) (by kernel_rfl) (by simp) ?_
            refine AllReadyH.cons (o := ⟨some 55, _, _, _, _, _⟩) rfl (fun K9 hK9 => ?w4r) (AllReadyH.cons (o := ⟨some 64, _, _, _, _, _⟩) rfl (fun K9 hK9 => ?w13r) AllReadyH.nil)
            case w4r =>
              go_simp
              refine hK9.out _ _ ?_ (fun hHeld9 => ?_)
              focus (first | exact (Blk.drew FBK.out).cell 1 | exact F6.out.cell 1 | exact (Blk.set F6.out 0 _).cell 1)
              clear hK9 K9 hHeld
              have hHeld := hHeld9
              clear hHeld9
              try simp only [Act.put, List.setIfInBounds_toArray, List.set_cons_zero, List.set_cons_succ]
              refine wpAnyH_ready (rs := [13]) (by kernel_rfl) (by simp) ?_
              refine AllReadyH.cons (o := ⟨some 64, _, _, _, _, _⟩) rfl (fun K9 hK9 => ?w13a) AllReadyH.nil
              case w13a =>
                go_simp
                refine hK9.out _ _ ?_ (fun hHeld9 => ?_)
                focus (first | exact (Blk.drew FBK.out).cell 1 | exact F6.out.cell 1 | exact (Blk.set F6.out 0 _).cell 1)
                clear hK9 K9 hHeld
                have hHeld := hHeld9
                clear hHeld9
                try simp only [Act.put, List.setIfInBounds_toArray, List.set_cons_zero, List.set_cons_succ]
                refine wpAnyH_take (i := 14) (oi := ⟨some 65, _, _, _, _, _⟩) (v := ?v14a) rfl (by kernel_rfl) (by kernel_rfl) (by kernel_rfl) (fun _ _ _ h => h) (Or.inl ⟨by kernel_rfl, ?hy14a⟩) (by assumption) ?rest14a
                case hy14a => (intro w9 hSw; (try dsimp only at hSw); go_simp; (try with_reducible rfl))
                simp only [Act.put, List.setIfInBounds_toArray, List.set_cons_zero, List.set_cons_succ]
                refine wpAnyH_take (i := 19) (oi := ⟨some 70, _, _, _, _, _⟩) (v := ?v19a) rfl (by kernel_rfl) (by kernel_rfl) (by kernel_rfl) (fun _ _ _ h => h) (Or.inl ⟨by kernel_rfl, ?hy19a⟩) (by assumption) ?rest19a
                case hy19a => (intro w9 hSw; (try dsimp only at hSw); go_simp; (try with_reducible rfl))
                simp only [Act.put, List.setIfInBounds_toArray, List.set_cons_zero, List.set_cons_succ]
                refine wpAnyH_ready (rs := [20]) (by kernel_rfl) (by simp) ?_
                refine AllReadyH.cons (o := ⟨some 71, _, _, _, _, _⟩) rfl (fun K9 hK9 => ?w20a) AllReadyH.nil
                case w20a =>
                  go_simp
                  go_at_call 44
                  with_reducible refine (PK.out wr.drew KA.out).mono ?_
                  rintro e w6 ⟨rfl, hk6, P6, m6, c6, hb6, hr6⟩
                  rw [HTT.out]
                  have B6 := Lib.hid hb6
                  have R6 := Lib.hid hr6
                  have K6 := Lib.hid ((KA.out.mono (by simp)).trans hk6 (fun i hi => .inl hi) : Kept [w.heap.size] wr w6)
                  have F6 := Lib.hid (FBK.out.kept K6.out (fun hm => HGP.out (by simp at hm; subst hm; exact hgG)))
                  have hfc6 := F6.out.cell
                  have hff6 := F6.out.frozen
                  have hfl6 := F6.out.lt
                  clear hk6 hb6 hr6
                  go_wp2_with fail
                  refine hK9.out _ _ ?_ (fun hHeld9 => ?_)
                  focus (first | exact (Blk.drew FBK.out).cell 1 | exact F6.out.cell 1 | exact (Blk.set F6.out 0 _).cell 1)
                  clear hK9 K9 hHeld
                  have hHeld := hHeld9
                  clear hHeld9
                  try simp only [Act.put, List.setIfInBounds_toArray, List.set_cons_zero, List.set_cons_succ]
                  refine wpAnyH_take (i := 21) (oi := ⟨some 72, _, _, _, _, _⟩) (v := ?v21a) rfl (by kernel_rfl) (by kernel_rfl) (by kernel_rfl) (fun _ _ _ h => h) (Or.inl ⟨by kernel_rfl, ?hy21a⟩) (by assumption) ?rest21a
                  case hy21a => (intro w9 hSw; (try dsimp only at hSw); go_simp; (try with_reducible rfl))
                  simp only [Act.put, List.setIfInBounds_toArray, List.set_cons_zero, List.set_cons_succ]
                  refine wpAnyH_take (i := 22) (oi := ⟨some 73, _, _, _, _, _⟩) (v := ?v22a) rfl (by kernel_rfl) (by kernel_rfl) (by kernel_rfl) (fun _ _ _ h => h) (Or.inl ⟨by kernel_rfl, ?hy22a⟩) (by assumption) ?rest22a
                  case hy22a => (intro w9 hSw; (try dsimp only at hSw); go_simp; (try with_reducible rfl))
                  simp only [Act.put, List.setIfInBounds_toArray, List.set_cons_zero, List.set_cons_succ]
                  refine wpAnyH_take (i := 23) (oi := ⟨some 74, _, _, _, _, _⟩) (v := ?v23a) rfl (by kernel_rfl) (by kernel_rfl) (by kernel_rfl) (fun _ _ _ h => h) (Or.inl ⟨by kernel_rfl, ?hy23a⟩) (by assumption) ?rest23a
                  case hy23a => (intro w9 hSw; (try dsimp only at hSw); go_simp; (try with_reducible rfl))
                  simp only [Act.put, List.setIfInBounds_toArray, List.set_cons_zero, List.set_cons_succ]
                  refine wpAnyH_take (i := 24) (oi := ⟨some 75, _, _, _, _, _⟩) (v := ?v24a) rfl (by kernel_rfl) (by kernel_rfl) (by kernel_rfl) (fun _ _ _ h => h) (Or.inl ⟨by kernel_rfl, ?hy24a⟩) (by assumption) ?rest24a
                  case hy24a => (intro w9 hSw; (try dsimp only at hSw); go_simp; (try with_reducible rfl))
                  simp only [Act.put, List.setIfInBounds_toArray, List.set_cons_zero, List.set_cons_succ]
                  refine wpAnyH_ready (rs := [25]) (by kernel_rfl) (by simp) ?_
                  refine AllReadyH.cons (o := ⟨none, _, _, _, _, _⟩) rfl (fun K9 hK9 => ?w25a) AllReadyH.nil
                  case w25a =>
                    go_simp
                    refine hK9.out _ _ ?_ (fun hHeld9 => ?_)
                    focus (first | exact (Blk.drew FBK.out).cell 1 | exact F6.out.cell 1 | exact (Blk.set F6.out 0 _).cell 1)
                    clear hK9 K9 hHeld
                    have hHeld := hHeld9
                    clear hHeld9
                    try simp only [Act.put, List.setIfInBounds_toArray, List.set_cons_zero, List.set_cons_succ]
                    refine wpAnyH_done (by kernel_rfl) ?_ _
                    go_wp2
                    go_roundg (N - (j + 1))
                    case measure => omega
                    case rel =>
                      have kA : Kept (g :: rowOf (.slice A2 f.b.length c7)) w6 ((w6.setCell ⟨g, 0, none⟩ (.slice A2 kk c7)).setCell ⟨g, 1, none⟩ (.int .i64 (kk : Nat))) := ((Kept.refl _ _).setCell (.inl (by simp)) _).setCell (.inl (by simp)) _
                      have X6 := XX.out.far K6.out (fun q hq hm => HGP.out (by simp at hq; subst hq; exact hm))
                      have hX := X6.file (f' := ⟨f.b.take kk, kk⟩) HF.out (by rw [HGG.out]; exact F6.out) (FO.out.kept K6.out (fun q hq hm => HGP.out (by simp at hm; subst hm; exact FR.out _ hq))) (by rw [HGG.out]; exact kA) (by rw [HGG.out]; exact (F6.out.set 0 _).set 1 _) (Own.cut_file (FO.out.kept K6.out (fun q hq hm => HGP.out (by simp at hm; subst hm; exact FR.out _ hq))) F6.out hkl' LK.out) (fun q hq => .inl (by cases A2 <;> exact hq))
                      have hrr : ∀ q ∈ rowOf (.slice A2 kk c7), q ∈ rowOf (.slice A2 f.b.length c7) := fun q hq => by cases A2 <;> exact hq
                      have hXG := hX.mono (G' := G) (fun q hq => (List.mem_append.1 hq).elim (fun h9 => FR.out q (hrr q h9)) id) (fun q hq => Nat.lt_of_lt_of_le (X6.lt q hq) kA.size)
                      refine ⟨j + 1, fs.set i ⟨f.b.take kk, kk⟩, qs.drop 1, by omega, rfl, by go_num, hXG, ⟨P6, m6, c6, B6.out.kept kA (fun hm => ?_), R6.out.kept kA (fun q hq hm => ?_)⟩, (KW5.out.trans K6.out (fun q hq => .inl (by simp at hq; subst hq; exact List.mem_cons_self))).trans kA (fun q hq => .inl (List.mem_cons_of_mem _ ?_)), ?_, by rw [List.length_set]; exact FLN.out, fun f9 hf9 => ?_⟩
                      · rcases List.mem_cons.1 hm with h9 | h9
                        · exact HGP.out (h9 ▸ hgG)
                        · exact HGP.out (FR.out _ h9)
                      · rcases List.mem_cons.1 hm with h9 | h9
                        · exact HPG.out q hq (h9 ▸ hgG)
                        · exact HPG.out q hq (FR.out _ h9)
                      · rcases List.mem_cons.1 hq with h9 | h9
                        · exact h9 ▸ hgG
                        · exact FR.out _ h9
                      · rw [← STEP.out]; exact CUT.out
                      · rcases List.mem_or_eq_of_mem_set hf9 with h9 | rfl
                        · exact OK5.out f9 h9
                        · exact ⟨by rw [LK.out]; exact Nat.le_refl _, by rw [LK.out]; omega⟩
            case w13r =>
              go_simp
              refine hK9.out _ _ ?_ (fun hHeld9 => ?_)
              focus (first | exact (Blk.drew FBK.out).cell 1 | exact F6.out.cell 1 | exact (Blk.set F6.out 0 _).cell 1)
              clear hK9 K9 hHeld
              have hHeld := hHeld9
              clear hHeld9
              try simp only [Act.put, List.setIfInBounds_toArray, List.set_cons_zero, List.set_cons_succ]
              refine wpAnyH_take (i := 14) (oi := ⟨some 65, _, _, _, _, _⟩) (v := ?v14b) rfl (by kernel_rfl) (by kernel_rfl) (by kernel_rfl) (fun _ _ _ h => h) (Or.inl ⟨by kernel_rfl, ?hy14b⟩) (by assumption) ?rest14b
              case hy14b => (intro w9 hSw; (try dsimp only at hSw); go_simp; (try with_reducible rfl))
              simp only [Act.put, List.setIfInBounds_toArray, List.set_cons_zero, List.set_cons_succ]
              refine wpAnyH_take (i := 19) (oi := ⟨some 70, _, _, _, _, _⟩) (v := ?v19b) rfl (by kernel_rfl) (by kernel_rfl) (by kernel_rfl) (fun _ _ _ h => h) (Or.inl ⟨by kernel_rfl, ?hy19b⟩) (by assumption) ?rest19b
              case hy19b => (intro w9 hSw; (try dsimp only at hSw); go_simp; (try with_reducible rfl))
              simp only [Act.put, List.setIfInBounds_toArray, List.set_cons_zero, List.set_cons_succ]
              refine wpAnyH_ready (rs := [4, 20]) (by kernel_rfl) (by simp) ?_
              refine AllReadyH.cons (o := ⟨some 55, _, _, _, _, _⟩) rfl (fun K9 hK9 => ?w4b) (AllReadyH.cons (o := ⟨some 71, _, _, _, _, _⟩) rfl (fun K9 hK9 => ?w20b) AllReadyH.nil)
              case w4b =>
                go_simp
                refine hK9.out _ _ ?_ (fun hHeld9 => ?_)
                focus (first | exact (Blk.drew FBK.out).cell 1 | exact F6.out.cell 1 | exact (Blk.set F6.out 0 _).cell 1)
                clear hK9 K9 hHeld
                have hHeld := hHeld9
                clear hHeld9
                try simp only [Act.put, List.setIfInBounds_toArray, List.set_cons_zero, List.set_cons_succ]
                refine wpAnyH_ready (rs := [20]) (by kernel_rfl) (by simp) ?_
                refine AllReadyH.cons (o := ⟨some 71, _, _, _, _, _⟩) rfl (fun K9 hK9 => ?w20c) AllReadyH.nil
                case w20c =>
                  go_simp
                  go_at_call 44
                  with_reducible refine (PK.out wr.drew KA.out).mono ?_
                  rintro e w6 ⟨rfl, hk6, P6, m6, c6, hb6, hr6⟩
                  rw [HTT.out]
                  have B6 := Lib.hid hb6
                  have R6 := Lib.hid hr6
                  have K6 := Lib.hid ((KA.out.mono (by simp)).trans hk6 (fun i hi => .inl hi) : Kept [w.heap.size] wr w6)
                  have F6 := Lib.hid (FBK.out.kept K6.out (fun hm => HGP.out (by simp at hm; subst hm; exact hgG)))
                  have hfc6 := F6.out.cell
                  have hff6 := F6.out.frozen
                  have hfl6 := F6.out.lt
                  clear hk6 hb6 hr6
                  go_wp2_with fail
                  refine hK9.out _ _ ?_ (fun hHeld9 => ?_)
                  focus (first | exact (Blk.drew FBK.out).cell 1 | exact F6.out.cell 1 | exact (Blk.set F6.out 0 _).cell 1)
                  clear hK9 K9 hHeld
                  have hHeld := hHeld9
                  clear hHeld9
                  try simp only [Act.put, List.setIfInBounds_toArray, List.set_cons_zero, List.set_cons_succ]
                  refine wpAnyH_take (i := 21) (oi := ⟨some 72, _, _, _, _, _⟩) (v := ?v21c) rfl (by kernel_rfl) (by kernel_rfl) (by kernel_rfl) (fun _ _ _ h => h) (Or.inl ⟨by kernel_rfl, ?hy21c⟩) (by assumption) ?rest21c
                  case hy21c => (intro w9 hSw; (try dsimp only at hSw); go_simp; (try with_reducible rfl))
                  simp only [Act.put, List.setIfInBounds_toArray, List.set_cons_zero, List.set_cons_succ]
                  refine wpAnyH_take (i := 22) (oi := ⟨some 73, _, _, _, _, _⟩) (v := ?v22c) rfl (by kernel_rfl) (by kernel_rfl) (by kernel_rfl) (fun _ _ _ h => h) (Or.inl ⟨by kernel_rfl, ?hy22c⟩) (by assumption) ?rest22c
                  case hy22c => (intro w9 hSw; (try dsimp only at hSw); go_simp; (try with_reducible rfl))
                  simp only [Act.put, List.setIfInBounds_toArray, List.set_cons_zero, List.set_cons_succ]
                  refine wpAnyH_take (i := 23) (oi := ⟨some 74, _, _, _, _, _⟩) (v := ?v23c) rfl (by kernel_rfl) (by kernel_rfl) (by kernel_rfl) (fun _ _ _ h => h) (Or.inl ⟨by kernel_rfl, ?hy23c⟩) (by assumption) ?rest23c
                  case hy23c => (intro w9 hSw; (try dsimp only at hSw); go_simp; (try with_reducible rfl))
                  simp only [Act.put, List.setIfInBounds_toArray, List.set_cons_zero, List.set_cons_succ]
                  refine wpAnyH_take (i := 24) (oi := ⟨some 75, _, _, _, _, _⟩) (v := ?v24c) rfl (by kernel_rfl) (by kernel_rfl) (by kernel_rfl) (fun _ _ _ h => h) (Or.inl ⟨by kernel_rfl, ?hy24c⟩) (by assumption) ?rest24c
                  case hy24c => (intro w9 hSw; (try dsimp only at hSw); go_simp; (try with_reducible rfl))
                  simp only [Act.put, List.setIfInBounds_toArray, List.set_cons_zero, List.set_cons_succ]
                  refine wpAnyH_ready (rs := [25]) (by kernel_rfl) (by simp) ?_
                  refine AllReadyH.cons (o := ⟨none, _, _, _, _, _⟩) rfl (fun K9 hK9 => ?w25c) AllReadyH.nil
                  case w25c =>
                    go_simp
                    refine hK9.out _ _ ?_ (fun hHeld9 => ?_)
                    focus (first | exact (Blk.drew FBK.out).cell 1 | exact F6.out.cell 1 | exact (Blk.set F6.out 0 _).cell 1)
                    clear hK9 K9 hHeld
                    have hHeld := hHeld9
                    clear hHeld9
                    try simp only [Act.put, List.setIfInBounds_toArray, List.set_cons_zero, List.set_cons_succ]
                    refine wpAnyH_done (by kernel_rfl) ?_ _
                    go_wp2
                    go_roundg (N - (j + 1))
                    case measure => omega
                    case rel =>
                      have kA : Kept (g :: rowOf (.slice A2 f.b.length c7)) w6 ((w6.setCell ⟨g, 0, none⟩ (.slice A2 kk c7)).setCell ⟨g, 1, none⟩ (.int .i64 (kk : Nat))) := ((Kept.refl _ _).setCell (.inl (by simp)) _).setCell (.inl (by simp)) _
                      have X6 := XX.out.far K6.out (fun q hq hm => HGP.out (by simp at hq; subst hq; exact hm))
                      have hX := X6.file (f' := ⟨f.b.take kk, kk⟩) HF.out (by rw [HGG.out]; exact F6.out) (FO.out.kept K6.out (fun q hq hm => HGP.out (by simp at hm; subst hm; exact FR.out _ hq))) (by rw [HGG.out]; exact kA) (by rw [HGG.out]; exact (F6.out.set 0 _).set 1 _) (Own.cut_file (FO.out.kept K6.out (fun q hq hm => HGP.out (by simp at hm; subst hm; exact FR.out _ hq))) F6.out hkl' LK.out) (fun q hq => .inl (by cases A2 <;> exact hq))
                      have hrr : ∀ q ∈ rowOf (.slice A2 kk c7), q ∈ rowOf (.slice A2 f.b.length c7) := fun q hq => by cases A2 <;> exact hq
                      have hXG := hX.mono (G' := G) (fun q hq => (List.mem_append.1 hq).elim (fun h9 => FR.out q (hrr q h9)) id) (fun q hq => Nat.lt_of_lt_of_le (X6.lt q hq) kA.size)
                      refine ⟨j + 1, fs.set i ⟨f.b.take kk, kk⟩, qs.drop 1, by omega, rfl, by go_num, hXG, ⟨P6, m6, c6, B6.out.kept kA (fun hm => ?_), R6.out.kept kA (fun q hq hm => ?_)⟩, (KW5.out.trans K6.out (fun q hq => .inl (by simp at hq; subst hq; exact List.mem_cons_self))).trans kA (fun q hq => .inl (List.mem_cons_of_mem _ ?_)), ?_, by rw [List.length_set]; exact FLN.out, fun f9 hf9 => ?_⟩
                      · rcases List.mem_cons.1 hm with h9 | h9
                        · exact HGP.out (h9 ▸ hgG)
                        · exact HGP.out (FR.out _ h9)
                      · rcases List.mem_cons.1 hm with h9 | h9
                        · exact HPG.out q hq (h9 ▸ hgG)
                        · exact HPG.out q hq (FR.out _ h9)
                      · rcases List.mem_cons.1 hq with h9 | h9
                        · exact h9 ▸ hgG
                        · exact FR.out _ h9
                      · rw [← STEP.out]; exact CUT.out
                      · rcases List.mem_or_eq_of_mem_set hf9 with h9 | rfl
                        · exact OK5.out f9 h9
                        · exact ⟨by rw [LK.out]; exact Nat.le_refl _, by rw [LK.out]; omega⟩
              case w20b =>
                go_simp
                go_at_call 44
                with_reducible refine (PK.out wr.drew KA.out).mono ?_
                rintro e w6 ⟨rfl, hk6, P6, m6, c6, hb6, hr6⟩
                rw [HTT.out]
                have B6 := Lib.hid hb6
                have R6 := Lib.hid hr6
                have K6 := Lib.hid ((KA.out.mono (by simp)).trans hk6 (fun i hi => .inl hi) : Kept [w.heap.size] wr w6)
                have F6 := Lib.hid (FBK.out.kept K6.out (fun hm => HGP.out (by simp at hm; subst hm; exact hgG)))
                have hfc6 := F6.out.cell
                have hff6 := F6.out.frozen
                have hfl6 := F6.out.lt
                clear hk6 hb6 hr6
                go_wp2_with fail
                refine hK9.out _ _ ?_ (fun hHeld9 => ?_)
                focus (first | exact (Blk.drew FBK.out).cell 1 | exact F6.out.cell 1 | exact (Blk.set F6.out 0 _).cell 1)
                clear hK9 K9 hHeld
                have hHeld := hHeld9
                clear hHeld9
                try simp only [Act.put, List.setIfInBounds_toArray, List.set_cons_zero, List.set_cons_succ]
                refine wpAnyH_take (i := 21) (oi := ⟨some 72, _, _, _, _, _⟩) (v := ?v21d) rfl (by kernel_rfl) (by kernel_rfl) (by kernel_rfl) (fun _ _ _ h => h) (Or.inl ⟨by kernel_rfl, ?hy21d⟩) (by assumption) ?rest21d
                case hy21d => (intro w9 hSw; (try dsimp only at hSw); go_simp; (try with_reducible rfl))
                simp only [Act.put, List.setIfInBounds_toArray, List.set_cons_zero, List.set_cons_succ]
                refine wpAnyH_ready (rs := [4]) (by kernel_rfl) (by simp) ?_
                refine AllReadyH.cons (o := ⟨some 55, _, _, _, _, _⟩) rfl (fun K9 hK9 => ?w4d) AllReadyH.nil
                case w4d =>
                  go_simp
                  refine hK9.out _ _ ?_ (fun hHeld9 => ?_)
                  focus (first | exact (Blk.drew FBK.out).cell 1 | exact F6.out.cell 1 | exact (Blk.set F6.out 0 _).cell 1)
                  clear hK9 K9 hHeld
                  have hHeld := hHeld9
                  clear hHeld9
                  try simp only [Act.put, List.setIfInBounds_toArray, List.set_cons_zero, List.set_cons_succ]
                  refine wpAnyH_take (i := 22) (oi := ⟨some 73, _, _, _, _, _⟩) (v := ?v22d) rfl (by kernel_rfl) (by kernel_rfl) (by kernel_rfl) (fun _ _ _ h => h) (Or.inl ⟨by kernel_rfl, ?hy22d⟩) (by assumption) ?rest22d
                  case hy22d => (intro w9 hSw; (try dsimp only at hSw); go_simp; (try with_reducible rfl))
                  simp only [Act.put, List.setIfInBounds_toArray, List.set_cons_zero, List.set_cons_succ]
                  refine wpAnyH_take (i := 23) (oi := ⟨some 74, _, _, _, _, _⟩) (v := ?v23d) rfl (by kernel_rfl) (by kernel_rfl) (by kernel_rfl) (fun _ _ _ h => h) (Or.inl ⟨by kernel_rfl, ?hy23d⟩) (by assumption) ?rest23d
                  case hy23d => (intro w9 hSw; (try dsimp only at hSw); go_simp; (try with_reducible rfl))
                  simp only [Act.put, List.setIfInBounds_toArray, List.set_cons_zero, List.set_cons_succ]
                  refine wpAnyH_take (i := 24) (oi := ⟨some 75, _, _, _, _, _⟩) (v := ?v24d) rfl (by kernel_rfl) (by kernel_rfl) (by kernel_rfl) (fun _ _ _ h => h) (Or.inl ⟨by kernel_rfl, ?hy24d⟩) (by assumption) ?rest24d
                  case hy24d => (intro w9 hSw; (try dsimp only at hSw); go_simp; (try with_reducible rfl))
                  simp only [Act.put, List.setIfInBounds_toArray, List.set_cons_zero, List.set_cons_succ]
                  refine wpAnyH_ready (rs := [25]) (by kernel_rfl) (by simp) ?_
                  refine AllReadyH.cons (o := ⟨none, _, _, _, _, _⟩) rfl (fun K9 hK9 => ?w25d) AllReadyH.nil
                  case w25d =>
                    go_simp
                    refine hK9.out _ _ ?_ (fun hHeld9 => ?_)
                    focus (first | exact (Blk.drew FBK.out).cell 1 | exact F6.out.cell 1 | exact (Blk.set F6.out 0 _).cell 1)
                    clear hK9 K9 hHeld
                    have hHeld := hHeld9
                    clear hHeld9
                    try simp only [Act.put, List.setIfInBounds_toArray, List.set_cons_zero, List.set_cons_succ]
                    refine wpAnyH_done (by kernel_rfl) ?_ _
                    go_wp2
                    go_roundg (N - (j + 1))
                    case measure => omega
                    case rel =>
                      have kA : Kept (g :: rowOf (.slice A2 f.b.length c7)) w6 ((w6.setCell ⟨g, 0, none⟩ (.slice A2 kk c7)).setCell ⟨g, 1, none⟩ (.int .i64 (kk : Nat))) := ((Kept.refl _ _).setCell (.inl (by simp)) _).setCell (.inl (by simp)) _
                      have X6 := XX.out.far K6.out (fun q hq hm => HGP.out (by simp at hq; subst hq; exact hm))
                      have hX := X6.file (f' := ⟨f.b.take kk, kk⟩) HF.out (by rw [HGG.out]; exact F6.out) (FO.out.kept K6.out (fun q hq hm => HGP.out (by simp at hm; subst hm; exact FR.out _ hq))) (by rw [HGG.out]; exact kA) (by rw [HGG.out]; exact (F6.out.set 0 _).set 1 _) (Own.cut_file (FO.out.kept K6.out (fun q hq hm => HGP.out (by simp at hm; subst hm; exact FR.out _ hq))) F6.out hkl' LK.out) (fun q hq => .inl (by cases A2 <;> exact hq))
                      have hrr : ∀ q ∈ rowOf (.slice A2 kk c7), q ∈ rowOf (.slice A2 f.b.length c7) := fun q hq => by cases A2 <;> exact hq
                      have hXG := hX.mono (G' := G) (fun q hq => (List.mem_append.1 hq).elim (fun h9 => FR.out q (hrr q h9)) id) (fun q hq => Nat.lt_of_lt_of_le (X6.lt q hq) kA.size)
                      refine ⟨j + 1, fs.set i ⟨f.b.take kk, kk⟩, qs.drop 1, by omega, rfl, by go_num, hXG, ⟨P6, m6, c6, B6.out.kept kA (fun hm => ?_), R6.out.kept kA (fun q hq hm => ?_)⟩, (KW5.out.trans K6.out (fun q hq => .inl (by simp at hq; subst hq; exact List.mem_cons_self))).trans kA (fun q hq => .inl (List.mem_cons_of_mem _ ?_)), ?_, by rw [List.length_set]; exact FLN.out, fun f9 hf9 => ?_⟩
                      · rcases List.mem_cons.1 hm with h9 | h9
                        · exact HGP.out (h9 ▸ hgG)
                        · exact HGP.out (FR.out _ h9)
                      · rcases List.mem_cons.1 hm with h9 | h9
                        · exact HPG.out q hq (h9 ▸ hgG)
                        · exact HPG.out q hq (FR.out _ h9)
                      · rcases List.mem_cons.1 hq with h9 | h9
                        · exact h9 ▸ hgG
                        · exact FR.out _ h9
                      · rw [← STEP.out]; exact CUT.out
                      · rcases List.mem_or_eq_of_mem_set hf9 with h9 | rfl
                        · exact OK5.out f9 h9
                        · exact ⟨by rw [LK.out]; exact Nat.le_refl _, by rw [LK.out]; omega⟩
            -- region 13, its end
          · obtain rfl : N = j := by omega
            have i1 : ¬ (N : Int) < (N : Int) := by omega
            have hfs : fs = cutAll nm NM (ps.drop 1) D.files := by
              have h1 := CUT.out
              rw [List.drop_of_length_le (by rw [HNN.out]; exact Nat.le_refl _)] at h1
              exact h1
            have HFS := Lib.hid (show craD D ps = { D with files := fs, now := nm, sur := nm, ch := [], fail := 0 } by
              unfold craD
              rw [HNM.out, HNS.out, hfs])
            clear hfs
            go_wp2_with (first
              | (go_at_call 43
                 refine (CloneP_any MY.out).mono ?_
                 rintro e w7 ⟨rfl, hm7, hk7⟩
                 have M7 := Lib.hid hm7
                 have K7 := Lib.hid hk7
                 have B7 := Lib.hid (XX.out.blk.kept hk7 (by simp))
                 have hc7 := B7.out.cell
                 have hf7 := B7.out.frozen
                 have hl7 := B7.out.lt
                 clear hm7 hk7))
            go_end0
            refine ⟨rfl, ?_⟩
            rw [HFS.out]
            have kE : Kept [p] w7 ((((w7.setCell ⟨p, 1, none⟩ (.map (some w0.heap.size))).setCell ⟨p, 2, none⟩ (.map (some wr.heap.size))).setCell ⟨p, 3, none⟩ (.slice none 0 0)).setCell ⟨p, 5, none⟩ (.int .i64 0)) := ((((Kept.refl _ _).setCell (.inl (by simp)) _).setCell (.inl (by simp)) _).setCell (.inl (by simp)) _).setCell (.inl (by simp)) _
            have hX := XX.out.crash MY.out HB0.out K7.out rfl M7.out ((((B7.out.set 1 (.map (some w0.heap.size))).set 2 (.map (some wr.heap.size))).set 3 (.slice none 0 0)).set 5 (.int .i64 0)) kE
            have kG : Kept G w wr := (K5.out.mono (by simp)).trans KW5.out (fun q hq => by
              rcases List.mem_cons.1 hq with h9 | h9
              · exact .inr (by omega)
              · exact .inl h9)
            refine ⟨fb, _, _, _, _, _, _, hX, (kG.trans K7.out (by simp)).trans kE (fun q hq => .inl (by simp at hq; subst hq; exact XX.out.inp)), fun q hq => ?_⟩
            rcases List.mem_cons.1 hq with h9 | h9
            · exact .inr (by have := HB0S.out; omega)
            · rcases List.mem_cons.1 h9 with h9 | h9
              · exact .inr (by have := kG.size; omega)
              · exact .inl h9
end Go.Proofs.Ythdjdfdefibepaa
