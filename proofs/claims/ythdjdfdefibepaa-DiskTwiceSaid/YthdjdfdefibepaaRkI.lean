
/-
  The document's disk: SyncDir, Sync, Cut, Read, Copy, NewDisk.
-/
import Derived.Test.YthdjdfdefibepaaRkH
namespace Go.Proofs.Ythdjdfdefibepaa
open Go.RowKit Go.ChangeShapes Go.WideShapes Go.ChangeAt Go.Deep Go.MapKept
set_option linter.unusedVariables false

/-- bytes just made -/
structure BtV (W w : World) (v : Value) (l : Bs) : Prop where
  own : Own w 5 1 v l.length (u8s l)
  new : ∀ k ∈ rowOf v, W.heap.size ≤ k
  kept : Kept [] W w
theorem BtV.nil {W w : World} (hk : Kept [] W w) : BtV W w (.slice none 0 0) [] := ⟨Own.nil _ _ _, by simp [rowOf, Value.ownBlock], hk⟩
theorem BtV.go {W w w' : World} {v : Value} {l : Bs} (h : BtV W w v l) (hk : Kept [] w w') : BtV W w' v l := ⟨h.own.kept hk (by simp), h.new, h.kept.trans hk (by simp)⟩
theorem BtV.rd {W w : World} {v : Value} {l : Bs} (h : BtV W w v l) : RdB w (rowOf v) v l := RdB.of_own h.own
theorem BtV.app {W w0 w' : World} {v v' : Value} {l l2 : Bs} (h : BtV W w0 v l) {n : Nat} (hn : l2.length = n) (ho : Own w' 5 1 v' (l.length + n) (u8s l ++ u8s l2)) (hk : Kept (rowOf v) w0 w') (hr : ∀ k ∈ rowOf v', k ∈ rowOf v ∨ w0.heap.size ≤ k) : BtV W w' v' (l ++ l2) := by
  subst hn
  refine ⟨by rw [List.length_append]; unfold u8s at ho ⊢; rw [List.map_append]; exact ho, fun k hk' => ?_, h.kept.trans hk (fun i hi => .inr (h.new i hi))⟩
  rcases hr k hk' with h1 | h1
  · exact h.new k h1
  · exact Nat.le_trans h.kept.size h1
section
variable {ops : Array Oper} {rest : List Oper} {o : Oper} {a : Act} {Q : Exit → Act → World → Prop} {K : Act → World → Prop} {E0 : Prop} {w0 W : World} {v : Value} {l l2 : Bs} {G : List Nat} {A : Option Addr} {m c : Nat}
theorem wpList_byt (hgd : o.guard = none) (s x : Operand) (ho : o.op = .call { callee := .builtin .append, args := #[s, x], argTypes := #[28, 28] })
    (hs : a.eval s = v) (hN : BtV W w0 v l) (hx : a.eval x = .slice A m c) (hb : RdB w0 G (.slice A m c) l2) (hl : l.length + l2.length ≤ 1000000000)
    (h : ∀ A' m' c' w', BtV W w' (.slice A' m' c') (l ++ l2) → Kept (rowOf v) w0 w' → (∀ k ∈ rowOf v, W.heap.size ≤ k) → wpList Try.prog ops Q rest (a.put o.dst (.slice A' m' c')) w') : wpList Try.prog ops Q (o :: rest) a w0 := by
  have hlen := hb.len.1
  refine wpList_app _ hgd s x 28 ho elem_u8 hs hN.own hx hb.rd (by rw [u8s_len, Nat.mul_one]; exact hlen) (u8s_one _) (by unfold maxLen; omega) (by omega) (fun v' w' ho' hk hr => ?_)
  have hz := hN.app hlen ho' hk hr
  obtain ⟨A', m', c', rfl⟩ := Own.form' ho'
  exact h A' m' c' w' hz hk hN.new
theorem step_byt (hgd : o.guard = none) (s x : Operand) (ho : o.op = .call { callee := .builtin .append, args := #[s, x], argTypes := #[28, 28] })
    (hs : a.eval s = v) (hN : BtV W w0 v l) (hx : a.eval x = .slice A m c) (hb : RdB w0 G (.slice A m c) l2) (hl : l.length + l2.length ≤ 1000000000)
    (h : ∀ A' m' c' w', BtV W w' (.slice A' m' c') (l ++ l2) → Kept (rowOf v) w0 w' → (∀ k ∈ rowOf v, W.heap.size ≤ k) → K (a.put o.dst (.slice A' m' c')) w') : if Region.wanted o (yielded ops a.tmps) = true then Oper.wp Try.prog o a w0 K Q else E0 := by
  have hlen := hb.len.1
  refine step_app _ hgd s x 28 ho elem_u8 hs hN.own hx hb.rd (by rw [u8s_len, Nat.mul_one]; exact hlen) (u8s_one _) (by unfold maxLen; omega) (by omega) (fun v' w' ho' hk hr => ?_)
  have hz := hN.app hlen ho' hk hr
  obtain ⟨A', m', c', rfl⟩ := Own.form' ho'
  exact h A' m' c' w' hz hk hN.new
end
section
variable {w w' : World} {p : Nat} {H : List Nat} {vs : List FvD} {M : RkD} {A1 A2 A3 A4 : Option Addr} {c1 c2 c3 c4 : Nat}
set_option maxHeartbeats 3200000 in
theorem rSyncDir_any (h : RkX w p H vs M A1 c1 A2 c2 A3 c3 A4 c4) (ok : OkM M) :
    Calls Try.prog 49 #[.pointer (some ⟨p, 0, none⟩)] w fun e w' => e = .returned (.int .i64 (sdrM M).1) ∧ RkTo w p H (sdrM M).2 w' := by
  obtain ⟨fa, n1, f1, hop, hz⟩ := rop_gen h ok
  have HX := Lib.hid h
  have OK := Lib.hid ok
  have HOP := Lib.hid hz
  have HO := Lib.hid hop
  clear h ok hz hop
  go_enter Try.func49, Try.ntmps49
  cases fa
  rotate_left
  · have HR := Lib.hid (show sdrM M = (8, { M with n := n1, fail := f1 }) by unfold sdrM; rw [HO.out]; rfl)
    go_wp2_with (first
      | (go_at_call 62
         refine HOP.out.mono ?_
         rintro e w1 ⟨rfl, h1, hk1⟩
         have X1 := Lib.hid h1
         have K1 := Lib.hid hk1
         have B1 := Lib.hid (show Blk w1 p 87 #[.slice A1 M.files.length c1, .slice A2 M.now.length c2, .slice A3 M.sur.length c3, .slice A4 M.ch.length c4, .int .i64 M.quota, .int .i64 n1, .int .i64 f1] from h1.blk)
         have hx1 := B1.out.cell
         have hf1 := B1.out.frozen
         have hl1 := B1.out.lt
         clear h1 hk1))
    go_ret
    exact ⟨by rw [HR.out]; rfl, by rw [HR.out]; exact X1.out.to K1.out⟩
  have HR := Lib.hid (show sdrM M = (0, { M with n := n1, fail := f1, sur := M.now, ch := [] }) by unfold sdrM; rw [HO.out]; rfl)
  go_wp2_with (first
    | (go_at_call 62
       refine HOP.out.mono ?_
       rintro e w1 ⟨rfl, h1, hk1⟩
       have X1 := Lib.hid h1
       have K1 := Lib.hid hk1
       have B1 := Lib.hid (show Blk w1 p 87 #[.slice A1 M.files.length c1, .slice A2 M.now.length c2, .slice A3 M.sur.length c3, .slice A4 M.ch.length c4, .int .i64 M.quota, .int .i64 n1, .int .i64 f1] from h1.blk)
       have hx1 := B1.out.cell
       have hf1 := B1.out.frozen
       have hl1 := B1.out.lt
       clear h1 hk1))
  go_ret
  rw [HR.out]
  refine ⟨rfl, ?_⟩
  have kz := ((Kept.refl [p] w1).setCell (p := ⟨p, 2, none⟩) (.inl (by simp)) (.slice A2 M.now.length c2)).setCell (p := ⟨p, 3, none⟩) (.inl (by simp)) (.slice none 0 0)
  have bz := (B1.out.set 2 (.slice A2 M.now.length c2)).set 3 (.slice none 0 0)
  have hd := X1.out.hd
  refine RkTo.from (RkTo.mk (M' := { M with n := n1, fail := f1, sur := M.now, ch := [] }) (G1 := H) (G2 := H) (G3 := H) (G4 := H) (G5 := H) X1.out.blk.lt X1.out.pn kz bz (X1.out.fv.kept kz hd) (X1.out.nw.kept kz hd) (X1.out.nw.kept kz hd) (arr_none _ _ _ _ 0 rfl) (X1.out.fb.kept kz hd) ?_ ?_ ?_ ?_ ?_) K1.out (fun k hk => .inl hk)
  all_goals exact X1.out.newG kz
set_option maxHeartbeats 3200000 in
theorem rSync_any (h : RkX w p H vs M A1 c1 A2 c2 A3 c3 A4 c4) (ok : OkM M) (x : Bs) :
    Calls Try.prog 48 #[.pointer (some ⟨p, 0, none⟩), .string (strOf x)] w fun e w' => e = .returned (.int .i64 (synM M x).1) ∧ RkTo w p H (synM M x).2 w' := by
  obtain ⟨fa, n1, f1, hop, hz⟩ := rop_gen h ok
  have HX := Lib.hid h
  have OK := Lib.hid ok
  have HOP := Lib.hid hz
  have HO := Lib.hid hop
  clear h ok hz hop
  go_enter Try.func48, Try.ntmps48
  cases fa
  rotate_left
  · have HR := Lib.hid (show synM M x = (8, { M with n := n1, fail := f1 }) by unfold synM; rw [HO.out]; rfl)
    go_wp2_with (first
      | (go_at_call 62
         refine HOP.out.mono ?_
         rintro e w1 ⟨rfl, h1, hk1⟩
         have X1 := Lib.hid h1
         have K1 := Lib.hid hk1
         have B1 := Lib.hid (show Blk w1 p 87 #[.slice A1 M.files.length c1, .slice A2 M.now.length c2, .slice A3 M.sur.length c3, .slice A4 M.ch.length c4, .int .i64 M.quota, .int .i64 n1, .int .i64 f1] from h1.blk)
         have hx1 := B1.out.cell
         have hf1 := B1.out.frozen
         have hl1 := B1.out.lt
         clear h1 hk1))
    go_ret
    exact ⟨by rw [HR.out]; rfl, by rw [HR.out]; exact X1.out.to K1.out⟩
  rcases hg : getM M.now x with _ | i
  · have HGF := Lib.hid (show fidx (getM M.now x) = -1 by rw [hg]; rfl)
    have HR := Lib.hid (show synM M x = (6, { M with n := n1, fail := f1 }) by unfold synM; rw [HO.out, hg]; rfl)
    clear hg
    go_wp2_with (first
      | (go_at_call 62
         refine HOP.out.mono ?_
         rintro e w1 ⟨rfl, h1, hk1⟩
         have X1 := Lib.hid h1
         have K1 := Lib.hid hk1
         have B1 := Lib.hid (show Blk w1 p 87 #[.slice A1 M.files.length c1, .slice A2 M.now.length c2, .slice A3 M.sur.length c3, .slice A4 M.ch.length c4, .int .i64 M.quota, .int .i64 n1, .int .i64 f1] from h1.blk)
         have hx1 := B1.out.cell
         have hf1 := B1.out.frozen
         have hl1 := B1.out.lt
         clear h1 hk1)
      | (go_at_call 64
         refine (rfind_any w1 X1.out.nw x).mono ?_
         rintro e w2 ⟨rfl, hk2⟩
         rw [HGF.out]
         have X2 := Lib.hid (X1.out.go hk2)
         have K2 := Lib.hid (K1.out.trans hk2 (by simp) : Kept [p] w w2)
         have B2 := Lib.hid (B1.out.kept hk2 (by simp))
         have hx2 := B2.out.cell
         have hf2 := B2.out.frozen
         have hl2 := B2.out.lt
         clear hk2 hx1 hf1 hl1))
    go_ret
    exact ⟨by rw [HR.out]; rfl, by rw [HR.out]; exact X2.out.to K2.out⟩
  · obtain ⟨f, hf⟩ : ∃ f, M.files[i]? = some f := ⟨_, List.getElem?_eq_getElem (OK.out.now _ (getM_mem hg))⟩
    have hil := (List.getElem?_eq_some_iff.1 hf).1
    have HIL := Lib.hid hil
    obtain ⟨v, hv⟩ : ∃ v, vs[i]? = some v := ⟨_, List.getElem?_eq_getElem (by rw [HX.out.fb.1]; exact hil)⟩
    obtain ⟨g1, o1, hA1, hg1, hgG, d0, d1⟩ := HX.out.fv.at hv
    have HFB := Lib.hid (HX.out.fb.2 i v f hv hf)
    have vm := HFB.out.1.len.1
    have vm2 := HFB.out.1.len.2.1
    have vm3 := HFB.out.1.len.2.2.1
    unfold maxLen at vm3
    have SF := Lib.hid (OK.out.sure f (List.mem_of_getElem? hf))
    have hgH := Lib.hid hgG
    subst hA1
    have j0 : (0 : Int) ≤ (i : Int) := by omega
    have j1 : (i : Int) < (M.files.length : Int) := by omega
    have i0 : ¬ (i : Int) < 0 := by omega
    have HGF := Lib.hid (show fidx (getM M.now x) = (i : Nat) by rw [hg]; rfl)
    have HR := Lib.hid (show synM M x = (0, { M with n := n1, fail := f1, files := M.files.set i ⟨f.b, f.b.length⟩ }) by unfold synM; rw [HO.out, hg]; simp [hf])
    clear hg hf hv
    go_upto_region 6 with (first
      | (go_at_call 62
         refine HOP.out.mono ?_
         rintro e w1 ⟨rfl, h1, hk1⟩
         have X1 := Lib.hid h1
         have K1 := Lib.hid hk1
         have B1 := Lib.hid (show Blk w1 p 87 #[.slice (some ⟨g1, o1, none⟩) M.files.length c1, .slice A2 M.now.length c2, .slice A3 M.sur.length c3, .slice A4 M.ch.length c4, .int .i64 M.quota, .int .i64 n1, .int .i64 f1] from h1.blk)
         have hx1 := B1.out.cell
         have hf1 := B1.out.frozen
         have hl1 := B1.out.lt
         clear h1 hk1)
      | (go_at_call 64
         refine (rfind_any w1 X1.out.nw x).mono ?_
         rintro e w2 ⟨rfl, hk2⟩
         rw [HGF.out]
         have X2 := Lib.hid (X1.out.go hk2)
         have K2 := Lib.hid (K1.out.trans hk2 (by simp) : Kept [p] w w2)
         have B2 := Lib.hid (B1.out.kept hk2 (by simp))
         have hx2 := B2.out.cell
         have hf2 := B2.out.frozen
         have hl2 := B2.out.lt
         clear hk2 hx1 hf1 hl1
         have e0 := (K2.out.cell (p := ⟨g1, o1 + i * 2, none⟩) hg1 (fun hm => HX.out.hd _ hgH.out hm)).trans d0
         have e1 := (K2.out.cell (p := ⟨g1, o1 + i * 2 + 1, none⟩) hg1 (fun hm => HX.out.hd _ hgH.out hm)).trans d1))
    refine wp_region_held_drew (S := (fun _ => True)) (by kernel_rfl) (trivial) (fun hHeld => ?_)
    refine wpAnyH_take (i := 0) (oi := ⟨some 16, _, _, _, _, _⟩) (v := ?vh2_1) rfl (by kernel_rfl) (by kernel_rfl) (by kernel_rfl) (fun _ _ _ h => h) (Or.inl ⟨by kernel_rfl, ?hyh2_1⟩) (by assumption) ?resth2_1
    case hyh2_1 => (intro w99 hSw; (try dsimp only at hSw); (try go_simp); (try with_reducible rfl); (try omega))
    simp only [Act.put, List.setIfInBounds_toArray, List.set_cons_zero, List.set_cons_succ]
    refine wpAnyH_take (i := 1) (oi := ⟨some 17, _, _, _, _, _⟩) (v := ?vh2_2) rfl (by kernel_rfl) (by kernel_rfl) (by kernel_rfl) (fun _ _ _ h => h) (Or.inl ⟨by kernel_rfl, ?hyh2_2⟩) (by assumption) ?resth2_2
    case hyh2_2 => (intro w99 hSw; (try dsimp only at hSw); (try go_simp); (try with_reducible rfl); (try omega))
    simp only [Act.put, List.setIfInBounds_toArray, List.set_cons_zero, List.set_cons_succ]
    refine wpAnyH_take (i := 2) (oi := ⟨some 18, _, _, _, _, _⟩) (v := ?vh2_3) rfl (by kernel_rfl) (by kernel_rfl) (by kernel_rfl) (fun _ _ _ h => h) (Or.inl ⟨by kernel_rfl, ?hyh2_3⟩) (by assumption) ?resth2_3
    case hyh2_3 => (intro w99 hSw; (try dsimp only at hSw); (try go_simp); (try with_reducible rfl); (try omega))
    simp only [Act.put, List.setIfInBounds_toArray, List.set_cons_zero, List.set_cons_succ]
    refine wpAnyH_take (i := 3) (oi := ⟨some 19, _, _, _, _, _⟩) (v := ?vh2_4) rfl (by kernel_rfl) (by kernel_rfl) (by kernel_rfl) (fun _ _ _ h => h) (Or.inl ⟨by kernel_rfl, ?hyh2_4⟩) (by assumption) ?resth2_4
    case hyh2_4 => (intro w99 hSw; (try dsimp only at hSw); (try go_simp); (try with_reducible rfl); (try omega))
    simp only [Act.put, List.setIfInBounds_toArray, List.set_cons_zero, List.set_cons_succ]
    refine wpAnyH_take (i := 4) (oi := ⟨some 20, _, _, _, _, _⟩) (v := ?vh2_5) rfl (by kernel_rfl) (by kernel_rfl) (by kernel_rfl) (fun _ _ _ h => h) (Or.inl ⟨by kernel_rfl, ?hyh2_5⟩) (by assumption) ?resth2_5
    case hyh2_5 => (intro w99 hSw; (try dsimp only at hSw); (try go_simp); (try with_reducible rfl); (try omega))
    simp only [Act.put, List.setIfInBounds_toArray, List.set_cons_zero, List.set_cons_succ]
    refine wpAnyH_take (i := 6) (oi := ⟨some 22, _, _, _, _, _⟩) (v := ?vh2_6) rfl (by kernel_rfl) (by kernel_rfl) (by kernel_rfl) (fun _ _ _ h => h) (Or.inl ⟨by kernel_rfl, ?hyh2_6⟩) (by assumption) ?resth2_6
    case hyh2_6 => (intro w99 hSw; (try dsimp only at hSw); (try go_simp); (try with_reducible rfl); (try omega))
    simp only [Act.put, List.setIfInBounds_toArray, List.set_cons_zero, List.set_cons_succ]
    refine wpAnyH_take (i := 10) (oi := ⟨some 26, _, _, _, _, _⟩) (v := ?vh2_7) rfl (by kernel_rfl) (by kernel_rfl) (by kernel_rfl) (fun _ _ _ h => h) (Or.inl ⟨by kernel_rfl, ?hyh2_7⟩) (by assumption) ?resth2_7
    case hyh2_7 => (intro w99 hSw; (try dsimp only at hSw); (try go_simp); (try with_reducible rfl); (try omega))
    simp only [Act.put, List.setIfInBounds_toArray, List.set_cons_zero, List.set_cons_succ]
    refine wpAnyH_take (i := 11) (oi := ⟨some 27, _, _, _, _, _⟩) (v := ?vh2_8) rfl (by kernel_rfl) (by kernel_rfl) (by kernel_rfl) (fun _ _ _ h => h) (Or.inl ⟨by kernel_rfl, ?hyh2_8⟩) (by assumption) ?resth2_8
    case hyh2_8 => (intro w99 hSw; (try dsimp only at hSw); (try go_simp); (try with_reducible rfl); (try omega))
    simp only [Act.put, List.setIfInBounds_toArray, List.set_cons_zero, List.set_cons_succ]
    refine wpAnyH_take (i := 12) (oi := ⟨some 28, _, _, _, _, _⟩) (v := ?vh2_9) rfl (by kernel_rfl) (by kernel_rfl) (by kernel_rfl) (fun _ _ _ h => h) (Or.inl ⟨by kernel_rfl, ?hyh2_9⟩) (by assumption) ?resth2_9
    case hyh2_9 => (intro w99 hSw; (try dsimp only at hSw); (try go_simp); (try with_reducible rfl); (try omega))
    simp only [Act.put, List.setIfInBounds_toArray, List.set_cons_zero, List.set_cons_succ]
    refine wpAnyH_take (i := 14) (oi := ⟨some 30, _, _, _, _, _⟩) (v := ?vh2_10) rfl (by kernel_rfl) (by kernel_rfl) (by kernel_rfl) (fun _ _ _ h => h) (Or.inl ⟨by kernel_rfl, ?hyh2_10⟩) (by assumption) ?resth2_10
    case hyh2_10 => (intro w99 hSw; (try dsimp only at hSw); (try go_simp); (try with_reducible rfl); (try omega))
    simp only [Act.put, List.setIfInBounds_toArray, List.set_cons_zero, List.set_cons_succ]
    refine wpAnyH_ready (rs := [5, 13]) (by kernel_rfl) (by simp) ?_
    refine AllReadyH.cons (o := ⟨some 21, _, _, _, _, _⟩) rfl (fun KQ hKQ => ?w5h2_11) (AllReadyH.cons (o := ⟨some 29, _, _, _, _, _⟩) rfl (fun KQ hKQ => ?w13h2_11) AllReadyH.nil)
    case w5h2_11 =>
      go_simp
      refine hKQ.out _ _ (trivial) (fun hHeld9 => ?_)
      clear hKQ KQ hHeld
      have hHeld := hHeld9
      clear hHeld9
      try simp only [Act.put, List.setIfInBounds_toArray, List.set_cons_zero, List.set_cons_succ]
      refine wpAnyH_take (i := 7) (oi := ⟨some 23, _, _, _, _, _⟩) (v := ?vh2_12) rfl (by kernel_rfl) (by kernel_rfl) (by kernel_rfl) (fun _ _ _ h => h) (Or.inl ⟨by kernel_rfl, ?hyh2_12⟩) (by assumption) ?resth2_12
      case hyh2_12 => (intro w99 hSw; (try dsimp only at hSw); (try go_simp); (try with_reducible rfl); (try omega))
      simp only [Act.put, List.setIfInBounds_toArray, List.set_cons_zero, List.set_cons_succ]
      refine wpAnyH_take (i := 8) (oi := ⟨some 24, _, _, _, _, _⟩) (v := ?vh2_13) rfl (by kernel_rfl) (by kernel_rfl) (by kernel_rfl) (fun _ _ _ h => h) (Or.inl ⟨by kernel_rfl, ?hyh2_13⟩) (by assumption) ?resth2_13
      case hyh2_13 => (intro w99 hSw; (try dsimp only at hSw); (try go_simp); (try with_reducible rfl); (try omega))
      simp only [Act.put, List.setIfInBounds_toArray, List.set_cons_zero, List.set_cons_succ]
      refine wpAnyH_ready (rs := [9, 13]) (by kernel_rfl) (by simp) ?_
      refine AllReadyH.cons (o := ⟨some 25, _, _, _, _, _⟩) rfl (fun KQ hKQ => ?w9h2_14) (AllReadyH.cons (o := ⟨some 29, _, _, _, _, _⟩) rfl (fun KQ hKQ => ?w13h2_14) AllReadyH.nil)
      case w9h2_14 =>
        go_simp
        refine hKQ.out _ _ (trivial) (fun hHeld9 => ?_)
        clear hKQ KQ hHeld
        have hHeld := hHeld9
        clear hHeld9
        try simp only [Act.put, List.setIfInBounds_toArray, List.set_cons_zero, List.set_cons_succ]
        refine wpAnyH_ready (rs := [13]) (by kernel_rfl) (by simp) ?_
        refine AllReadyH.cons (o := ⟨some 29, _, _, _, _, _⟩) rfl (fun KQ hKQ => ?w13h2_15) AllReadyH.nil
        case w13h2_15 =>
          go_simp
          refine hKQ.out _ _ (trivial) (fun hHeld9 => ?_)
          clear hKQ KQ hHeld
          have hHeld := hHeld9
          clear hHeld9
          try simp only [Act.put, List.setIfInBounds_toArray, List.set_cons_zero, List.set_cons_succ]
          refine wpAnyH_take (i := 15) (oi := ⟨some 31, _, _, _, _, _⟩) (v := ?vh2_16) rfl (by kernel_rfl) (by kernel_rfl) (by kernel_rfl) (fun _ _ _ h => h) (Or.inl ⟨by kernel_rfl, ?hyh2_16⟩) (by assumption) ?resth2_16
          case hyh2_16 => (intro w99 hSw; (try dsimp only at hSw); (try go_simp); (try with_reducible rfl); (try omega))
          simp only [Act.put, List.setIfInBounds_toArray, List.set_cons_zero, List.set_cons_succ]
          refine wpAnyH_take (i := 16) (oi := ⟨some 32, _, _, _, _, _⟩) (v := ?vh2_17) rfl (by kernel_rfl) (by kernel_rfl) (by kernel_rfl) (fun _ _ _ h => h) (Or.inl ⟨by kernel_rfl, ?hyh2_17⟩) (by assumption) ?resth2_17
          case hyh2_17 => (intro w99 hSw; (try dsimp only at hSw); (try go_simp); (try with_reducible rfl); (try omega))
          simp only [Act.put, List.setIfInBounds_toArray, List.set_cons_zero, List.set_cons_succ]
          refine wpAnyH_ready (rs := [17]) (by kernel_rfl) (by simp) ?_
          refine AllReadyH.cons (o := ⟨some 33, _, _, _, _, _⟩) rfl (fun KQ hKQ => ?w17h2_18) AllReadyH.nil
          case w17h2_18 =>
            go_simp
            refine hKQ.out _ _ (trivial) (fun hHeld9 => ?_)
            clear hKQ KQ hHeld
            have hHeld := hHeld9
            clear hHeld9
            try simp only [Act.put, List.setIfInBounds_toArray, List.set_cons_zero, List.set_cons_succ]
            refine wpAnyH_take (i := 18) (oi := ⟨some 34, _, _, _, _, _⟩) (v := ?vh2_19) rfl (by kernel_rfl) (by kernel_rfl) (by kernel_rfl) (fun _ _ _ h => h) (Or.inl ⟨by kernel_rfl, ?hyh2_19⟩) (by assumption) ?resth2_19
            case hyh2_19 => (intro w99 hSw; (try dsimp only at hSw); (try go_simp); (try with_reducible rfl); (try omega))
            simp only [Act.put, List.setIfInBounds_toArray, List.set_cons_zero, List.set_cons_succ]
            refine wpAnyH_take (i := 19) (oi := ⟨some 35, _, _, _, _, _⟩) (v := ?vh2_20) rfl (by kernel_rfl) (by kernel_rfl) (by kernel_rfl) (fun _ _ _ h => h) (Or.inl ⟨by kernel_rfl, ?hyh2_20⟩) (by assumption) ?resth2_20
            case hyh2_20 => (intro w99 hSw; (try dsimp only at hSw); (try go_simp); (try with_reducible rfl); (try omega))
            simp only [Act.put, List.setIfInBounds_toArray, List.set_cons_zero, List.set_cons_succ]
            refine wpAnyH_ready (rs := [20]) (by kernel_rfl) (by simp) ?_
            refine AllReadyH.cons (o := ⟨some 36, _, _, _, _, _⟩) rfl (fun KQ hKQ => ?w20h2_21) AllReadyH.nil
            case w20h2_21 =>
              go_simp
              go_at_call 66
              have hz := rput_any (X2.out.go ((Kept.refl [] w2).drew)) HIL.out (s := v.m) (b := f.b) (HFB.out.1.kept ((K2.out).trans ((Kept.refl [] w2).drew) (by simp)) HX.out.hd) HX.out.pn (X2.out.go ((Kept.refl [] w2).drew)).lt (by have := OK.out.nl; simp only; omega)
              with_reducible refine hz.mono ?_
              clear hz
              rintro e w3 ⟨rfl, h3⟩
              have T3 := Lib.hid (RkTo.from (H := H) h3 (K2.out.trans ((Kept.refl [] w2).drew) (by simp)) (fun k hk => .inl ((List.mem_append.1 hk).elim id id)))
              have SK := Lib.hid (show (∀ j, w3.cell? ⟨p, j, none⟩ = w3.cell? ⟨p, j, none⟩) from fun j => rfl)
              clear h3
              go_wp2_with fail
              refine hKQ.out _ _ (trivial) (fun hHeld9 => ?_)
              clear hKQ KQ hHeld
              have hHeld := hHeld9
              clear hHeld9
              try simp only [Act.put, List.setIfInBounds_toArray, List.set_cons_zero, List.set_cons_succ]
              refine wpAnyH_done (by kernel_rfl) ?_ _
              clear hHeld
              go_wp2
              go_ret
              exact ⟨by rw [HR.out]; rfl, by rw [HR.out, vm]; exact T3.out⟩
      case w13h2_14 =>
        go_simp
        refine hKQ.out _ _ (trivial) (fun hHeld9 => ?_)
        clear hKQ KQ hHeld
        have hHeld := hHeld9
        clear hHeld9
        try simp only [Act.put, List.setIfInBounds_toArray, List.set_cons_zero, List.set_cons_succ]
        refine wpAnyH_take (i := 15) (oi := ⟨some 31, _, _, _, _, _⟩) (v := ?vh2_22) rfl (by kernel_rfl) (by kernel_rfl) (by kernel_rfl) (fun _ _ _ h => h) (Or.inl ⟨by kernel_rfl, ?hyh2_22⟩) (by assumption) ?resth2_22
        case hyh2_22 => (intro w99 hSw; (try dsimp only at hSw); (try go_simp); (try with_reducible rfl); (try omega))
        simp only [Act.put, List.setIfInBounds_toArray, List.set_cons_zero, List.set_cons_succ]
        refine wpAnyH_take (i := 16) (oi := ⟨some 32, _, _, _, _, _⟩) (v := ?vh2_23) rfl (by kernel_rfl) (by kernel_rfl) (by kernel_rfl) (fun _ _ _ h => h) (Or.inl ⟨by kernel_rfl, ?hyh2_23⟩) (by assumption) ?resth2_23
        case hyh2_23 => (intro w99 hSw; (try dsimp only at hSw); (try go_simp); (try with_reducible rfl); (try omega))
        simp only [Act.put, List.setIfInBounds_toArray, List.set_cons_zero, List.set_cons_succ]
        refine wpAnyH_ready (rs := [9, 17]) (by kernel_rfl) (by simp) ?_
        refine AllReadyH.cons (o := ⟨some 25, _, _, _, _, _⟩) rfl (fun KQ hKQ => ?w9h2_24) (AllReadyH.cons (o := ⟨some 33, _, _, _, _, _⟩) rfl (fun KQ hKQ => ?w17h2_24) AllReadyH.nil)
        case w9h2_24 =>
          go_simp
          refine hKQ.out _ _ (trivial) (fun hHeld9 => ?_)
          clear hKQ KQ hHeld
          have hHeld := hHeld9
          clear hHeld9
          try simp only [Act.put, List.setIfInBounds_toArray, List.set_cons_zero, List.set_cons_succ]
          refine wpAnyH_ready (rs := [17]) (by kernel_rfl) (by simp) ?_
          refine AllReadyH.cons (o := ⟨some 33, _, _, _, _, _⟩) rfl (fun KQ hKQ => ?w17h2_25) AllReadyH.nil
          case w17h2_25 =>
            go_simp
            refine hKQ.out _ _ (trivial) (fun hHeld9 => ?_)
            clear hKQ KQ hHeld
            have hHeld := hHeld9
            clear hHeld9
            try simp only [Act.put, List.setIfInBounds_toArray, List.set_cons_zero, List.set_cons_succ]
            refine wpAnyH_take (i := 18) (oi := ⟨some 34, _, _, _, _, _⟩) (v := ?vh2_26) rfl (by kernel_rfl) (by kernel_rfl) (by kernel_rfl) (fun _ _ _ h => h) (Or.inl ⟨by kernel_rfl, ?hyh2_26⟩) (by assumption) ?resth2_26
            case hyh2_26 => (intro w99 hSw; (try dsimp only at hSw); (try go_simp); (try with_reducible rfl); (try omega))
            simp only [Act.put, List.setIfInBounds_toArray, List.set_cons_zero, List.set_cons_succ]
            refine wpAnyH_take (i := 19) (oi := ⟨some 35, _, _, _, _, _⟩) (v := ?vh2_27) rfl (by kernel_rfl) (by kernel_rfl) (by kernel_rfl) (fun _ _ _ h => h) (Or.inl ⟨by kernel_rfl, ?hyh2_27⟩) (by assumption) ?resth2_27
            case hyh2_27 => (intro w99 hSw; (try dsimp only at hSw); (try go_simp); (try with_reducible rfl); (try omega))
            simp only [Act.put, List.setIfInBounds_toArray, List.set_cons_zero, List.set_cons_succ]
            refine wpAnyH_ready (rs := [20]) (by kernel_rfl) (by simp) ?_
            refine AllReadyH.cons (o := ⟨some 36, _, _, _, _, _⟩) rfl (fun KQ hKQ => ?w20h2_28) AllReadyH.nil
            case w20h2_28 =>
              go_simp
              go_at_call 66
              have hz := rput_any (X2.out.go ((Kept.refl [] w2).drew)) HIL.out (s := v.m) (b := f.b) (HFB.out.1.kept ((K2.out).trans ((Kept.refl [] w2).drew) (by simp)) HX.out.hd) HX.out.pn (X2.out.go ((Kept.refl [] w2).drew)).lt (by have := OK.out.nl; simp only; omega)
              with_reducible refine hz.mono ?_
              clear hz
              rintro e w3 ⟨rfl, h3⟩
              have T3 := Lib.hid (RkTo.from (H := H) h3 (K2.out.trans ((Kept.refl [] w2).drew) (by simp)) (fun k hk => .inl ((List.mem_append.1 hk).elim id id)))
              have SK := Lib.hid (show (∀ j, w3.cell? ⟨p, j, none⟩ = w3.cell? ⟨p, j, none⟩) from fun j => rfl)
              clear h3
              go_wp2_with fail
              refine hKQ.out _ _ (trivial) (fun hHeld9 => ?_)
              clear hKQ KQ hHeld
              have hHeld := hHeld9
              clear hHeld9
              try simp only [Act.put, List.setIfInBounds_toArray, List.set_cons_zero, List.set_cons_succ]
              refine wpAnyH_done (by kernel_rfl) ?_ _
              clear hHeld
              go_wp2
              go_ret
              exact ⟨by rw [HR.out]; rfl, by rw [HR.out, vm]; exact T3.out⟩
        case w17h2_24 =>
          go_simp
          refine hKQ.out _ _ (trivial) (fun hHeld9 => ?_)
          clear hKQ KQ hHeld
          have hHeld := hHeld9
          clear hHeld9
          try simp only [Act.put, List.setIfInBounds_toArray, List.set_cons_zero, List.set_cons_succ]
          refine wpAnyH_take (i := 18) (oi := ⟨some 34, _, _, _, _, _⟩) (v := ?vh2_29) rfl (by kernel_rfl) (by kernel_rfl) (by kernel_rfl) (fun _ _ _ h => h) (Or.inl ⟨by kernel_rfl, ?hyh2_29⟩) (by assumption) ?resth2_29
          case hyh2_29 => (intro w99 hSw; (try dsimp only at hSw); (try go_simp); (try with_reducible rfl); (try omega))
          simp only [Act.put, List.setIfInBounds_toArray, List.set_cons_zero, List.set_cons_succ]
          refine wpAnyH_ready (rs := [9]) (by kernel_rfl) (by simp) ?_
          refine AllReadyH.cons (o := ⟨some 25, _, _, _, _, _⟩) rfl (fun KQ hKQ => ?w9h2_30) AllReadyH.nil
          case w9h2_30 =>
            go_simp
            refine hKQ.out _ _ (trivial) (fun hHeld9 => ?_)
            clear hKQ KQ hHeld
            have hHeld := hHeld9
            clear hHeld9
            try simp only [Act.put, List.setIfInBounds_toArray, List.set_cons_zero, List.set_cons_succ]
            refine wpAnyH_take (i := 19) (oi := ⟨some 35, _, _, _, _, _⟩) (v := ?vh2_31) rfl (by kernel_rfl) (by kernel_rfl) (by kernel_rfl) (fun _ _ _ h => h) (Or.inl ⟨by kernel_rfl, ?hyh2_31⟩) (by assumption) ?resth2_31
            case hyh2_31 => (intro w99 hSw; (try dsimp only at hSw); (try go_simp); (try with_reducible rfl); (try omega))
            simp only [Act.put, List.setIfInBounds_toArray, List.set_cons_zero, List.set_cons_succ]
            refine wpAnyH_ready (rs := [20]) (by kernel_rfl) (by simp) ?_
            refine AllReadyH.cons (o := ⟨some 36, _, _, _, _, _⟩) rfl (fun KQ hKQ => ?w20h2_32) AllReadyH.nil
            case w20h2_32 =>
              go_simp
              go_at_call 66
              have hz := rput_any (X2.out.go ((Kept.refl [] w2).drew)) HIL.out (s := v.m) (b := f.b) (HFB.out.1.kept ((K2.out).trans ((Kept.refl [] w2).drew) (by simp)) HX.out.hd) HX.out.pn (X2.out.go ((Kept.refl [] w2).drew)).lt (by have := OK.out.nl; simp only; omega)
              with_reducible refine hz.mono ?_
              clear hz
              rintro e w3 ⟨rfl, h3⟩
              have T3 := Lib.hid (RkTo.from (H := H) h3 (K2.out.trans ((Kept.refl [] w2).drew) (by simp)) (fun k hk => .inl ((List.mem_append.1 hk).elim id id)))
              have SK := Lib.hid (show (∀ j, w3.cell? ⟨p, j, none⟩ = w3.cell? ⟨p, j, none⟩) from fun j => rfl)
              clear h3
              go_wp2_with fail
              refine hKQ.out _ _ (trivial) (fun hHeld9 => ?_)
              clear hKQ KQ hHeld
              have hHeld := hHeld9
              clear hHeld9
              try simp only [Act.put, List.setIfInBounds_toArray, List.set_cons_zero, List.set_cons_succ]
              refine wpAnyH_done (by kernel_rfl) ?_ _
              clear hHeld
              go_wp2
              go_ret
              exact ⟨by rw [HR.out]; rfl, by rw [HR.out, vm]; exact T3.out⟩
    case w13h2_11 =>
      go_simp
      refine hKQ.out _ _ (trivial) (fun hHeld9 => ?_)
      clear hKQ KQ hHeld
      have hHeld := hHeld9
      clear hHeld9
      try simp only [Act.put, List.setIfInBounds_toArray, List.set_cons_zero, List.set_cons_succ]
      refine wpAnyH_take (i := 15) (oi := ⟨some 31, _, _, _, _, _⟩) (v := ?vh2_33) rfl (by kernel_rfl) (by kernel_rfl) (by kernel_rfl) (fun _ _ _ h => h) (Or.inl ⟨by kernel_rfl, ?hyh2_33⟩) (by assumption) ?resth2_33
      case hyh2_33 => (intro w99 hSw; (try dsimp only at hSw); (try go_simp); (try with_reducible rfl); (try omega))
      simp only [Act.put, List.setIfInBounds_toArray, List.set_cons_zero, List.set_cons_succ]
      refine wpAnyH_take (i := 16) (oi := ⟨some 32, _, _, _, _, _⟩) (v := ?vh2_34) rfl (by kernel_rfl) (by kernel_rfl) (by kernel_rfl) (fun _ _ _ h => h) (Or.inl ⟨by kernel_rfl, ?hyh2_34⟩) (by assumption) ?resth2_34
      case hyh2_34 => (intro w99 hSw; (try dsimp only at hSw); (try go_simp); (try with_reducible rfl); (try omega))
      simp only [Act.put, List.setIfInBounds_toArray, List.set_cons_zero, List.set_cons_succ]
      refine wpAnyH_ready (rs := [5, 17]) (by kernel_rfl) (by simp) ?_
      refine AllReadyH.cons (o := ⟨some 21, _, _, _, _, _⟩) rfl (fun KQ hKQ => ?w5h2_35) (AllReadyH.cons (o := ⟨some 33, _, _, _, _, _⟩) rfl (fun KQ hKQ => ?w17h2_35) AllReadyH.nil)
      case w5h2_35 =>
        go_simp
        refine hKQ.out _ _ (trivial) (fun hHeld9 => ?_)
        clear hKQ KQ hHeld
        have hHeld := hHeld9
        clear hHeld9
        try simp only [Act.put, List.setIfInBounds_toArray, List.set_cons_zero, List.set_cons_succ]
        refine wpAnyH_take (i := 7) (oi := ⟨some 23, _, _, _, _, _⟩) (v := ?vh2_36) rfl (by kernel_rfl) (by kernel_rfl) (by kernel_rfl) (fun _ _ _ h => h) (Or.inl ⟨by kernel_rfl, ?hyh2_36⟩) (by assumption) ?resth2_36
        case hyh2_36 => (intro w99 hSw; (try dsimp only at hSw); (try go_simp); (try with_reducible rfl); (try omega))
        simp only [Act.put, List.setIfInBounds_toArray, List.set_cons_zero, List.set_cons_succ]
        refine wpAnyH_take (i := 8) (oi := ⟨some 24, _, _, _, _, _⟩) (v := ?vh2_37) rfl (by kernel_rfl) (by kernel_rfl) (by kernel_rfl) (fun _ _ _ h => h) (Or.inl ⟨by kernel_rfl, ?hyh2_37⟩) (by assumption) ?resth2_37
        case hyh2_37 => (intro w99 hSw; (try dsimp only at hSw); (try go_simp); (try with_reducible rfl); (try omega))
        simp only [Act.put, List.setIfInBounds_toArray, List.set_cons_zero, List.set_cons_succ]
        refine wpAnyH_ready (rs := [9, 17]) (by kernel_rfl) (by simp) ?_
        refine AllReadyH.cons (o := ⟨some 25, _, _, _, _, _⟩) rfl (fun KQ hKQ => ?w9h2_38) (AllReadyH.cons (o := ⟨some 33, _, _, _, _, _⟩) rfl (fun KQ hKQ => ?w17h2_38) AllReadyH.nil)
        case w9h2_38 =>
          go_simp
          refine hKQ.out _ _ (trivial) (fun hHeld9 => ?_)
          clear hKQ KQ hHeld
          have hHeld := hHeld9
          clear hHeld9
          try simp only [Act.put, List.setIfInBounds_toArray, List.set_cons_zero, List.set_cons_succ]
          refine wpAnyH_ready (rs := [17]) (by kernel_rfl) (by simp) ?_
          refine AllReadyH.cons (o := ⟨some 33, _, _, _, _, _⟩) rfl (fun KQ hKQ => ?w17h2_39) AllReadyH.nil
          case w17h2_39 =>
            go_simp
            refine hKQ.out _ _ (trivial) (fun hHeld9 => ?_)
            clear hKQ KQ hHeld
            have hHeld := hHeld9
            clear hHeld9
            try simp only [Act.put, List.setIfInBounds_toArray, List.set_cons_zero, List.set_cons_succ]
            refine wpAnyH_take (i := 18) (oi := ⟨some 34, _, _, _, _, _⟩) (v := ?vh2_40) rfl (by kernel_rfl) (by kernel_rfl) (by kernel_rfl) (fun _ _ _ h => h) (Or.inl ⟨by kernel_rfl, ?hyh2_40⟩) (by assumption) ?resth2_40
            case hyh2_40 => (intro w99 hSw; (try dsimp only at hSw); (try go_simp); (try with_reducible rfl); (try omega))
            simp only [Act.put, List.setIfInBounds_toArray, List.set_cons_zero, List.set_cons_succ]
            refine wpAnyH_take (i := 19) (oi := ⟨some 35, _, _, _, _, _⟩) (v := ?vh2_41) rfl (by kernel_rfl) (by kernel_rfl) (by kernel_rfl) (fun _ _ _ h => h) (Or.inl ⟨by kernel_rfl, ?hyh2_41⟩) (by assumption) ?resth2_41
            case hyh2_41 => (intro w99 hSw; (try dsimp only at hSw); (try go_simp); (try with_reducible rfl); (try omega))
            simp only [Act.put, List.setIfInBounds_toArray, List.set_cons_zero, List.set_cons_succ]
            refine wpAnyH_ready (rs := [20]) (by kernel_rfl) (by simp) ?_
            refine AllReadyH.cons (o := ⟨some 36, _, _, _, _, _⟩) rfl (fun KQ hKQ => ?w20h2_42) AllReadyH.nil
            case w20h2_42 =>
              go_simp
              go_at_call 66
              have hz := rput_any (X2.out.go ((Kept.refl [] w2).drew)) HIL.out (s := v.m) (b := f.b) (HFB.out.1.kept ((K2.out).trans ((Kept.refl [] w2).drew) (by simp)) HX.out.hd) HX.out.pn (X2.out.go ((Kept.refl [] w2).drew)).lt (by have := OK.out.nl; simp only; omega)
              with_reducible refine hz.mono ?_
              clear hz
              rintro e w3 ⟨rfl, h3⟩
              have T3 := Lib.hid (RkTo.from (H := H) h3 (K2.out.trans ((Kept.refl [] w2).drew) (by simp)) (fun k hk => .inl ((List.mem_append.1 hk).elim id id)))
              have SK := Lib.hid (show (∀ j, w3.cell? ⟨p, j, none⟩ = w3.cell? ⟨p, j, none⟩) from fun j => rfl)
              clear h3
              go_wp2_with fail
              refine hKQ.out _ _ (trivial) (fun hHeld9 => ?_)
              clear hKQ KQ hHeld
              have hHeld := hHeld9
              clear hHeld9
              try simp only [Act.put, List.setIfInBounds_toArray, List.set_cons_zero, List.set_cons_succ]
              refine wpAnyH_done (by kernel_rfl) ?_ _
              clear hHeld
              go_wp2
              go_ret
              exact ⟨by rw [HR.out]; rfl, by rw [HR.out, vm]; exact T3.out⟩
        case w17h2_38 =>
          go_simp
          refine hKQ.out _ _ (trivial) (fun hHeld9 => ?_)
          clear hKQ KQ hHeld
          have hHeld := hHeld9
          clear hHeld9
          try simp only [Act.put, List.setIfInBounds_toArray, List.set_cons_zero, List.set_cons_succ]
          refine wpAnyH_take (i := 18) (oi := ⟨some 34, _, _, _, _, _⟩) (v := ?vh2_43) rfl (by kernel_rfl) (by kernel_rfl) (by kernel_rfl) (fun _ _ _ h => h) (Or.inl ⟨by kernel_rfl, ?hyh2_43⟩) (by assumption) ?resth2_43
          case hyh2_43 => (intro w99 hSw; (try dsimp only at hSw); (try go_simp); (try with_reducible rfl); (try omega))
          simp only [Act.put, List.setIfInBounds_toArray, List.set_cons_zero, List.set_cons_succ]
          refine wpAnyH_ready (rs := [9]) (by kernel_rfl) (by simp) ?_
          refine AllReadyH.cons (o := ⟨some 25, _, _, _, _, _⟩) rfl (fun KQ hKQ => ?w9h2_44) AllReadyH.nil
          case w9h2_44 =>
            go_simp
            refine hKQ.out _ _ (trivial) (fun hHeld9 => ?_)
            clear hKQ KQ hHeld
            have hHeld := hHeld9
            clear hHeld9
            try simp only [Act.put, List.setIfInBounds_toArray, List.set_cons_zero, List.set_cons_succ]
            refine wpAnyH_take (i := 19) (oi := ⟨some 35, _, _, _, _, _⟩) (v := ?vh2_45) rfl (by kernel_rfl) (by kernel_rfl) (by kernel_rfl) (fun _ _ _ h => h) (Or.inl ⟨by kernel_rfl, ?hyh2_45⟩) (by assumption) ?resth2_45
            case hyh2_45 => (intro w99 hSw; (try dsimp only at hSw); (try go_simp); (try with_reducible rfl); (try omega))
            simp only [Act.put, List.setIfInBounds_toArray, List.set_cons_zero, List.set_cons_succ]
            refine wpAnyH_ready (rs := [20]) (by kernel_rfl) (by simp) ?_
            refine AllReadyH.cons (o := ⟨some 36, _, _, _, _, _⟩) rfl (fun KQ hKQ => ?w20h2_46) AllReadyH.nil
            case w20h2_46 =>
              go_simp
              go_at_call 66
              have hz := rput_any (X2.out.go ((Kept.refl [] w2).drew)) HIL.out (s := v.m) (b := f.b) (HFB.out.1.kept ((K2.out).trans ((Kept.refl [] w2).drew) (by simp)) HX.out.hd) HX.out.pn (X2.out.go ((Kept.refl [] w2).drew)).lt (by have := OK.out.nl; simp only; omega)
              with_reducible refine hz.mono ?_
              clear hz
              rintro e w3 ⟨rfl, h3⟩
              have T3 := Lib.hid (RkTo.from (H := H) h3 (K2.out.trans ((Kept.refl [] w2).drew) (by simp)) (fun k hk => .inl ((List.mem_append.1 hk).elim id id)))
              have SK := Lib.hid (show (∀ j, w3.cell? ⟨p, j, none⟩ = w3.cell? ⟨p, j, none⟩) from fun j => rfl)
              clear h3
              go_wp2_with fail
              refine hKQ.out _ _ (trivial) (fun hHeld9 => ?_)
              clear hKQ KQ hHeld
              have hHeld := hHeld9
              clear hHeld9
              try simp only [Act.put, List.setIfInBounds_toArray, List.set_cons_zero, List.set_cons_succ]
              refine wpAnyH_done (by kernel_rfl) ?_ _
              clear hHeld
              go_wp2
              go_ret
              exact ⟨by rw [HR.out]; rfl, by rw [HR.out, vm]; exact T3.out⟩
      case w17h2_35 =>
        go_simp
        refine hKQ.out _ _ (trivial) (fun hHeld9 => ?_)
        clear hKQ KQ hHeld
        have hHeld := hHeld9
        clear hHeld9
        try simp only [Act.put, List.setIfInBounds_toArray, List.set_cons_zero, List.set_cons_succ]
        refine wpAnyH_take (i := 18) (oi := ⟨some 34, _, _, _, _, _⟩) (v := ?vh2_47) rfl (by kernel_rfl) (by kernel_rfl) (by kernel_rfl) (fun _ _ _ h => h) (Or.inl ⟨by kernel_rfl, ?hyh2_47⟩) (by assumption) ?resth2_47
        case hyh2_47 => (intro w99 hSw; (try dsimp only at hSw); (try go_simp); (try with_reducible rfl); (try omega))
        simp only [Act.put, List.setIfInBounds_toArray, List.set_cons_zero, List.set_cons_succ]
        refine wpAnyH_ready (rs := [5]) (by kernel_rfl) (by simp) ?_
        refine AllReadyH.cons (o := ⟨some 21, _, _, _, _, _⟩) rfl (fun KQ hKQ => ?w5h2_48) AllReadyH.nil
        case w5h2_48 =>
          go_simp
          refine hKQ.out _ _ (trivial) (fun hHeld9 => ?_)
          clear hKQ KQ hHeld
          have hHeld := hHeld9
          clear hHeld9
          try simp only [Act.put, List.setIfInBounds_toArray, List.set_cons_zero, List.set_cons_succ]
          refine wpAnyH_take (i := 7) (oi := ⟨some 23, _, _, _, _, _⟩) (v := ?vh2_49) rfl (by kernel_rfl) (by kernel_rfl) (by kernel_rfl) (fun _ _ _ h => h) (Or.inl ⟨by kernel_rfl, ?hyh2_49⟩) (by assumption) ?resth2_49
          case hyh2_49 => (intro w99 hSw; (try dsimp only at hSw); (try go_simp); (try with_reducible rfl); (try omega))
          simp only [Act.put, List.setIfInBounds_toArray, List.set_cons_zero, List.set_cons_succ]
          refine wpAnyH_take (i := 8) (oi := ⟨some 24, _, _, _, _, _⟩) (v := ?vh2_50) rfl (by kernel_rfl) (by kernel_rfl) (by kernel_rfl) (fun _ _ _ h => h) (Or.inl ⟨by kernel_rfl, ?hyh2_50⟩) (by assumption) ?resth2_50
          case hyh2_50 => (intro w99 hSw; (try dsimp only at hSw); (try go_simp); (try with_reducible rfl); (try omega))
          simp only [Act.put, List.setIfInBounds_toArray, List.set_cons_zero, List.set_cons_succ]
          refine wpAnyH_ready (rs := [9]) (by kernel_rfl) (by simp) ?_
          refine AllReadyH.cons (o := ⟨some 25, _, _, _, _, _⟩) rfl (fun KQ hKQ => ?w9h2_51) AllReadyH.nil
          case w9h2_51 =>
            go_simp
            refine hKQ.out _ _ (trivial) (fun hHeld9 => ?_)
            clear hKQ KQ hHeld
            have hHeld := hHeld9
            clear hHeld9
            try simp only [Act.put, List.setIfInBounds_toArray, List.set_cons_zero, List.set_cons_succ]
            refine wpAnyH_take (i := 19) (oi := ⟨some 35, _, _, _, _, _⟩) (v := ?vh2_52) rfl (by kernel_rfl) (by kernel_rfl) (by kernel_rfl) (fun _ _ _ h => h) (Or.inl ⟨by kernel_rfl, ?hyh2_52⟩) (by assumption) ?resth2_52
            case hyh2_52 => (intro w99 hSw; (try dsimp only at hSw); (try go_simp); (try with_reducible rfl); (try omega))
            simp only [Act.put, List.setIfInBounds_toArray, List.set_cons_zero, List.set_cons_succ]
            refine wpAnyH_ready (rs := [20]) (by kernel_rfl) (by simp) ?_
            refine AllReadyH.cons (o := ⟨some 36, _, _, _, _, _⟩) rfl (fun KQ hKQ => ?w20h2_53) AllReadyH.nil
            case w20h2_53 =>
              go_simp
              go_at_call 66
              have hz := rput_any (X2.out.go ((Kept.refl [] w2).drew)) HIL.out (s := v.m) (b := f.b) (HFB.out.1.kept ((K2.out).trans ((Kept.refl [] w2).drew) (by simp)) HX.out.hd) HX.out.pn (X2.out.go ((Kept.refl [] w2).drew)).lt (by have := OK.out.nl; simp only; omega)
              with_reducible refine hz.mono ?_
              clear hz
              rintro e w3 ⟨rfl, h3⟩
              have T3 := Lib.hid (RkTo.from (H := H) h3 (K2.out.trans ((Kept.refl [] w2).drew) (by simp)) (fun k hk => .inl ((List.mem_append.1 hk).elim id id)))
              have SK := Lib.hid (show (∀ j, w3.cell? ⟨p, j, none⟩ = w3.cell? ⟨p, j, none⟩) from fun j => rfl)
              clear h3
              go_wp2_with fail
              refine hKQ.out _ _ (trivial) (fun hHeld9 => ?_)
              clear hKQ KQ hHeld
              have hHeld := hHeld9
              clear hHeld9
              try simp only [Act.put, List.setIfInBounds_toArray, List.set_cons_zero, List.set_cons_succ]
              refine wpAnyH_done (by kernel_rfl) ?_ _
              clear hHeld
              go_wp2
              go_ret
              exact ⟨by rw [HR.out]; rfl, by rw [HR.out, vm]; exact T3.out⟩
end
end Go.Proofs.Ythdjdfdefibepaa
