/-
  The walk of the reference's ReadTuple, of its Decode.
-/
import Derived.Test.YtkacghjglicjiaaGreatRecP
import Derived.Test.YtkacghjglicjiaaGreatHsD
import Derived.Test.YtkacghjglicjiaaGreatFrameA
import Derived.Deep.CutBlock
import Derived.Test.YtkacghjglicjiaaGreatNb
namespace Go.Proofs.YtkacghjglicjiaaGreat
set_option linter.unusedVariables false
section
open Go.RowKit Go.ChangeShapes Go.WideShapes Go.ChangeAt Go.Deep Go.MapKept
theorem results_cell2 {P : Program} {fn : Func} {s s1 s2 : Tmp} {ty : TypeId} {tmps : Array Value} {w : World} {g : Nat} {t : TypeId} {cells : Array Value} (h : fn.results = #[.cell s ty, .tmp s1, .tmp s2]) (hs : tmps.getD s undef = .pointer (some ⟨g, 0, none⟩))
    (hb : Blk w g t cells) (d : TypeDesc) (hu : P.underlying ty = some d) (hd : d.isRow = true) (hi : (P.info? ty).map (·.size) = some cells.size) : (results fn tmps).run P w = .ok (.tuple #[.agg cells, tmps.getD s1 undef, tmps.getD s2 undef]) w := by
  have hs' : tmps[s]?.getD undef = .pointer (some ⟨g, 0, none⟩) := by rw [← Array.getD_eq_getD_getElem?]; exact hs
  simp [results, h, hs', asAddr, run_loadWhole hb d hu hd hi]
theorem scan_bounds : ∀ (k : Nat) (bs : List UInt8), (scanN k bs).1.length * 16 ≤ bs.length ∧ ∀ f ∈ (scanN k bs).1, f.body.length ≤ bs.length
  | 0, bs => by simp [scanN]
  | k + 1, bs => by
    unfold scanN
    split
    · simp
    · split
      · simp
      · rename_i h1 h2
        have h3 : (takeF bs).2.2 = 0 := by simpa using h2
        obtain ⟨h4, h5, h6⟩ := take_len bs h3
        obtain ⟨h7, h8⟩ := scan_bounds k (bs.drop (takeF bs).2.1)
        rw [List.length_drop] at h7
        refine ⟨by simp only [List.length_cons]; omega, fun f hf => ?_⟩
        rcases List.mem_cons.1 hf with rfl | hf
        · omega
        · have := h8 f hf
          rw [List.length_drop] at this
          omega
theorem dec_backs (f : FrameD) : (decR f).backs.length ≤ 17 := by
  unfold decR
  split
  · exact rdR_backs _ _ _ _
  · show ([] : List BackD).length ≤ 17
    simp
set_option maxRecDepth 100000 in
theorem wpList_recb {ops : Array Oper} {rest : List Oper} {o : Oper} {a : Act} {Q : Exit → Act → World → Prop} {w0 : World} (hgd : o.guard = none) (s x : Operand)
    (ho : o.op = .call { callee := .builtin .append, args := #[s, x], argTypes := #[27, 27] }) {W : World} {sl : Value} {l : List RecD} {r : RecD} {A' : Option Addr} {m' c' : Nat}
    {g : Nat} (hs : a.eval s = sl) (hN : RecN W w0 sl l) (hx : a.eval x = .slice (some ⟨g, 0, none⟩) 1 1) (hb : Blk w0 g 43 #[.int .i64 r.kind, .int .u32 (r.tup.src.toNat : Nat), .int .u32 (r.tup.dst.toNat : Nat), .int .i64 r.tup.proto, .int .i64 r.tup.sport, .int .i64 r.tup.dport, .int .i64 r.fb, .int .i64 r.fg, .int .i64 r.fs, .int .i64 r.gen, .slice A' m' c', .int .i64 r.back, .int .i64 r.until_, .int .i64 r.count]) (hr : BkV W w0 (.slice A' m' c') r.backs) (hl : l.length ≤ 100000)
    (h : ∀ A m c w', RecN W w' (.slice A m c) (l ++ [r]) → Kept (rowOf sl) w0 w' → (∀ k ∈ rowOf sl, W.heap.size ≤ k ∧ k < w0.heap.size) → wpList Tryz.prog ops Q rest (a.put o.dst (.slice A m c)) w') : wpList Tryz.prog ops Q (o :: rest) a w0 := by
  obtain ⟨css, G, h1, hG1⟩ := hN
  obtain ⟨b1, b2⟩ := lv_row BkOk (fun h => h) hr
  obtain ⟨bcss, bG, hbx⟩ := hr
  have hD : Decs RecDec w0 (rowOf (.slice A' m' c')) [[.int .i64 r.kind, .int .u32 (r.tup.src.toNat : Nat), .int .u32 (r.tup.dst.toNat : Nat), .int .i64 r.tup.proto, .int .i64 r.tup.sport, .int .i64 r.tup.dport, .int .i64 r.fb, .int .i64 r.fg, .int .i64 r.fs, .int .i64 r.gen, .slice A' m' c', .int .i64 r.back, .int .i64 r.until_, .int .i64 r.count]] [r] := Decs.one' ⟨A', m', c', rfl, b1⟩
  have hrd : Rd w0 (some ⟨g, 0, none⟩) ([[.int .i64 r.kind, .int .u32 (r.tup.src.toNat : Nat), .int .u32 (r.tup.dst.toNat : Nat), .int .i64 r.tup.proto, .int .i64 r.tup.sport, .int .i64 r.tup.dport, .int .i64 r.fb, .int .i64 r.fg, .int .i64 r.fs, .int .i64 r.gen, .slice A' m' c', .int .i64 r.back, .int .i64 r.until_, .int .i64 r.count]].flatten) := fun hne => ⟨g, 0, rfl, fun j u hu => by
    rw [Nat.zero_add, hb.cell j]
    simpa using hu⟩
  have hap := own_apart hbx.own h1.own (by decide)
  refine wpList_app _ hgd s x 27 ho elem_record hs h1.own hx hrd rfl (hD.ones RecOk) (by unfold maxLen; omega) (by omega) (fun v' w' ho' hk hr' => ?_)
  have hx := LVx.app RecOk h1 (Kept.refl [] w0) hD (fun k hk => ⟨hap k hk, (b2 k hk).2⟩) ho' (by simp) (by simp) hk hr'
  obtain ⟨A, m, c, rfl⟩ := Own.form' ho'
  refine h A m c w' ⟨_, _, hx, fun k hk' => ?_⟩ hk (fun k hk => ⟨h1.new k hk, h1.own.lt k hk⟩)
  rcases List.mem_append.1 hk' with h9 | h9
  · exact hG1 k h9
  · exact (b2 k h9).1
def RecvPost (w : World) (bs : List UInt8) (e : Ending) (w' : World) : Prop :=
  Kept [] w w' ∧ ∃ A1 m1 c1 A2 m2 c2 A3 m3 c3 G', e = .returned (.tuple #[.agg #[.int .i64 (recvM bs).1.gen, .slice A1 m1 c1, .slice A2 m2 c2, .slice A3 m3 c3], .int .i64 (recvM bs).2.1, .int .i64 (recvM bs).2.2]) ∧ VA w' G' A1 m1 c1 A2 m2 c2 A3 m3 c3 (recvM bs).1
theorem RecvPost.drew {w w' : World} {bs : List UInt8} {e : Ending} (h : RecvPost w bs e w') : RecvPost w bs e w'.drew := by
  obtain ⟨hk, A1, m1, c1, A2, m2, c2, A3, m3, c3, G', h1, h2⟩ := h
  exact ⟨hk.drew, A1, m1, c1, A2, m2, c2, A3, m3, c3, G', h1, h2.go ((Kept.refl [] w').drew)⟩
theorem VA.nil (w : World) : VA w [] none 0 0 none 0 0 none 0 0 nilV := ⟨arr_none _ _ _ _ _ rfl, arr_none _ _ _ _ _ rfl, arr_none _ _ _ _ _ rfl, by simp⟩
theorem RecvPost.bad {w w' : World} {bs : List UInt8} {n : Int} (hk : Kept [] w w') (h : recvM bs = (nilV, 0, n)) :
    RecvPost w bs (.returned (.tuple #[.agg #[.int .i64 0, .slice none 0 0, .slice none 0 0, .slice none 0 0], .int .i64 0, .int .i64 n])) w' :=
  ⟨hk, none, 0, 0, none, 0, 0, none, 0, 0, [], by rw [h]; rfl, by rw [h]; exact VA.nil w'⟩
theorem any_dec {fs : List FrameD} {f : FrameD} (hf : f ∈ fs) (h : decE f ≠ 0) : fs.any (fun f => decide (decE f ≠ 0)) = true := List.any_eq_true.2 ⟨f, hf, by simp [h]⟩
theorem made_one {w w' : World} {l : List RecD} {e : Ending} (h : MadePost w l e w') : Kept [] w w' ∧ ∃ A1 m1 c1 A2 m2 c2 A3 m3 c3 gen, e = .returned (.tuple #[.agg #[.int .i64 gen, .slice A1 m1 c1, .slice A2 m2 c2, .slice A3 m3 c3], .bool (decide ((runV nilV l).2 = 0) && sameRs (recsV (runV nilV l).1) l)]) ∧
    ((decide ((runV nilV l).2 = 0) && sameRs (recsV (runV nilV l).1) l) = true → gen = (runV nilV l).1.gen ∧ ∃ G', VA w' G' A1 m1 c1 A2 m2 c2 A3 m3 c3 (runV nilV l).1 ∧ ∀ k ∈ G', w.heap.size ≤ k) := by
  obtain ⟨hk, ⟨h1, h2⟩ | ⟨h1, A1, m1, c1, A2, m2, c2, A3, m3, c3, G', h2, h3, h4⟩⟩ := h
  · exact ⟨hk, none, 0, 0, none, 0, 0, none, 0, 0, 0, by rw [decide_eq_false h1]; exact h2, fun hc => by rw [decide_eq_false h1] at hc; cases hc⟩
  · exact ⟨hk, A1, m1, c1, A2, m2, c2, A3, m3, c3, _, by rw [decide_eq_true h1, Bool.true_and]; exact h2, fun _ => ⟨rfl, G', h3, h4⟩⟩
theorem whole_two {l : List RecD} (h : wholeB l = true) : 2 ≤ l.length := by
  unfold wholeB at h
  simp at h
  exact h.1
set_option maxRecDepth 100000 in
set_option maxHeartbeats 16000000 in
theorem Receive_any (w : World) {G : List Nat} {A : Option Addr} {m c : Nat} (bs : List UInt8) (h : RdB w G (.slice A m c) bs) (hm : m ≤ 1000000) :
    Calls Tryz.prog 15 #[.slice A m c] w fun e w' => RecvPost w bs e w' := by
  have hbl := h.len.1
  have H := Lib.hid h
  obtain ⟨sb1, sb2⟩ := scan_bounds bs.length bs
  have SB1 := Lib.hid (show (scanF bs).1.length ≤ 100000 by unfold scanF; omega)
  have SB2 := Lib.hid (show ∀ f ∈ (scanF bs).1, f.body.length ≤ 1000000 from fun f hf => Nat.le_trans (sb2 f hf) (by omega))
  have RD := Lib.hid (show recvM bs = recvM bs from rfl)
  obtain ⟨fs, hfs⟩ : ∃ fs, (scanF bs).1 = fs := ⟨_, rfl⟩
  obtain ⟨sn, hsn⟩ : ∃ n, (scanF bs).2.1 = n := ⟨_, rfl⟩
  obtain ⟨se, hse⟩ : ∃ e, (scanF bs).2.2 = e := ⟨_, rfl⟩
  have HF := Lib.hid (And.intro hfs (And.intro hsn hse))
  rw [hfs] at SB1 SB2
  clear h sb1 sb2 hbl hfs hsn hse RD
  have X0 := Lib.hid (Blk.new w 26 #[.int .i64 0, .slice none 0 0, .slice none 0 0, .slice none 0 0])
  have K0 := Lib.hid ((Kept.refl [] w).alloc (.cells #[.int .i64 0, .slice none 0 0, .slice none 0 0, .slice none 0 0] 26))
  go_enter Tryz.func15, Tryz.ntmps15
  go_upto_region 2 with (first
    | (go_at_call 33
       refine (Scan_any _ G A m c bs (H.out.kept K0.out (by simp)) (by omega)).mono ?_
       rintro e w1 ⟨v, rfl, hv⟩
       rw [HF.out.1] at hv
       rw [HF.out.2.1, HF.out.2.2]
       have FV := Lib.hid hv
       have K1 := Lib.hid (K0.out.trans (LV.kept hv) (by simp))
       have X1 := Lib.hid (X0.out.kept (LV.kept hv) (by simp))
       clear hv))
  clear X0 K0
  obtain ⟨Gf, hfa, hfg⟩ := LV.arr FrOk FV.out
  obtain ⟨FA, fm, fc, rfl⟩ := (by obtain ⟨_, _, hq⟩ := FV.out; exact Own.form' hq.own : ∃ A m c, v = .slice A m c)
  have FRA := Lib.hid hfa
  have FRG := Lib.hid hfg
  have hfl := (FrArr.len hfa)
  have FL := Lib.hid hfl.1
  have hfc : fc ≤ 2 ^ 63 - 1 := hfl.2.2.1
  have hfmc : fm ≤ fc := hfl.2.1
  have hfm : fm ≤ 100000 := by rw [← hfl.1]; exact SB1.out
  clear hfa hfg hfl
  by_cases hse : se = 0
  rotate_left
  · have i1 : (se != 0) = true := by simp [hse]
    have HM := Lib.hid (recv_scan (bs := bs) (by rw [HF.out.2.2]; exact hse))
    clear hse
    go_wp2_with ((with_reducible show wpList _ _ _ ({ dst := none, op := Op.store 26 (.tmp 2) (.tmp 25), type := _, pos := _, after := _, guard := _ } :: _) _ _); refine wpList_put (t := 26) rfl 26 (.tmp 2) (.tmp 25) rfl _ (by rfl) (by rfl) (by exact X1.out) (by rfl) (by kernel_rfl) (by simp [Value.oneCell']) ?_; intro w9 hb9 hk9; have Hb9 := Lib.hid hb9; have Hk9 := Lib.hid hk9; clear hb9 hk9)
    refine bodyPost_ret (results_cell2 (t := 26) Tryz.results15 (by rfl) Hb9.out _ Tryz.underlying26 rfl (by kernel_rfl)) rfl ?_
    exact RecvPost.bad (K1.out.trans Hk9.out (fun i hi => .inr (by simp at hi; omega))) HM.out
  have HSE := Lib.hid hse
  have i1 : (se != 0) = false := by simp [hse]
  clear hse
  go_wp2
  go_loopg [8, 9, 28] fm (fun gg sl ob i wr => ∃ (j : Nat) (B : Option Addr) (n d : Nat), j ≤ fm ∧ gg = fm - j ∧ sl = .slice B n d ∧ ob = .bool ((fs.take j).any fun f => decide (f.ver ≠ 3)) ∧ i = .int .i64 j ∧ RecN w1 wr (.slice B n d) ((fs.take j).map decR) ∧ (∀ f ∈ fs.take j, decE f = 0) ∧ Blk wr w.heap.size 26 #[.int .i64 0, .slice none 0 0, .slice none 0 0, .slice none 0 0])
  case atStart => exact ⟨0, none, 0, 0, by omega, by omega, rfl, by simp, rfl, ⟨[], [], ⟨Own.nil _ _ _, by simp [rowOf, Value.ownBlock], Decs.nil, by simp, Kept.refl [] w1⟩, by simp⟩, by simp, X1.out⟩
  case round =>
    obtain ⟨j, B, n, d, hj, rfl, rfl, rfl, rfl, hrn, hde, hbx⟩ := hrel
    have RN := Lib.hid hrn
    have DE := Lib.hid hde
    have Bx := Lib.hid hbx
    have KR := Lib.hid hrn.kept
    have KW := Lib.hid (K1.out.trans hrn.kept (by simp))
    have hsw : w.heap.size < wr.heap.size := hbx.lt
    have hln := (by obtain ⟨_, hq, _⟩ := hrn.arr; exact hq.len : ((fs.take j).map decR).length = n ∧ n ≤ d ∧ d ≤ maxLen ∧ (B = none → n = 0 ∧ d = 0))
    unfold maxLen at hln
    obtain ⟨ob, hob⟩ : ∃ b, ((fs.take j).any fun f => decide (f.ver ≠ 3)) = b := ⟨_, rfl⟩
    have OB := Lib.hid hob
    rw [hob]
    have LN := Lib.hid hln.1
    have ld1 : n ≤ d := hln.2.1
    have ld2 : d ≤ 2 ^ 63 - 1 := hln.2.2.1
    clear hrn hde hbx hln hob
    by_cases hlt : j < fm
    · have hkl : j < fs.length := by rw [FL.out]; exact hlt
      obtain ⟨g, o, FB, fn, fd, rfl, hg, hgG, q0, q1, q2, hr⟩ := (FrArr.kept FRA.out KR.out (by simp)).at (k := j) hkl
      have Hr := Lib.hid hr
      have hfn : fn ≤ 1000000 := by rw [← hr.len.1]; exact SB2.out _ (List.getElem_mem hkl)
      have HMEM := Lib.hid (List.getElem_mem hkl)
      have Htk := Lib.hid (show fs.take (j + 1) = fs.take j ++ [fs[j]] by rw [List.take_add_one, List.getElem?_eq_getElem hkl]; rfl)
      have hjl : ((fs.take j).map decR).length ≤ 100000 := by rw [List.length_map, List.length_take]; omega
      have HJL := Lib.hid hjl
      clear hr hjl
      generalize fs[j]'hkl = f at *
      have i0 : (0 : Int) ≤ (j : Int) := by omega
      have i2 : (j : Int) < (fm : Int) := by omega
      have iw : IntKind.i64.wrap ((j : Int) + 1) = (j : Int) + 1 := IntWalk.i64_in _ (by omega)
      obtain ⟨r, hr⟩ : ∃ r, decR f = r := ⟨_, rfl⟩
      have HR := Lib.hid hr
      obtain ⟨de, hdec⟩ : ∃ e, decE f = e := ⟨_, rfl⟩
      have HDE := Lib.hid hdec
      clear hr hdec
      by_cases hd0 : de = 0
      rotate_left
      · have i3 : (de != 0) = true := by simp [hd0]
        have HM : Hid (recvM bs = (nilV, 0, 3)) := Lib.hid (by
          unfold recvM
          rw [HF.out.1, HF.out.2.2, if_neg (by rw [HSE.out]; simp), if_pos (any_dec HMEM.out (by rw [HDE.out]; exact hd0))])
        clear hd0
        go_wp2_with (first
          | (((with_reducible show wpList _ _ _ ({ dst := none, op := Op.store 45 (.tmp 11) (.tmp 31), type := _, pos := _, after := _, guard := _ } :: _) _ _); refine wpList_put (t := 45) rfl 45 (.tmp 11) (.tmp 31) rfl _ (by rfl) (by rfl) (by (repeat (first | (apply Blk.new'; simp; done) | apply Blk.alloc | apply Blk.drew))) (by rfl) (by kernel_rfl) (by simp [Value.oneCell']) ?_; intro w5 hb5 hk5; have Hb5 := Lib.hid hb5; have Hk5 := Lib.hid hk5; clear hb5 hk5)
             have K5 := Lib.hid (((Kept.refl [] wr).alloc _).trans Hk5.out (fun i hi => .inr (by simp at hi; omega)))
             have hx5 := Hb5.out.cell)
          | (go_at_call 34
             refine (Decode_any _ f (Hr.out.kept K5.out (by simp)) hfn).mono ?_
             rintro e w6 ⟨sl, rfl, hsl⟩
             rw [HR.out] at hsl ⊢
             rw [HDE.out]
             have K6 := Lib.hid (K5.out.trans (LV.kept hsl) (by simp))
             obtain ⟨D1, d1, d2, rfl⟩ := BkV.form hsl
             clear hsl hx5)
          | (((with_reducible show wpList _ _ _ ({ dst := none, op := Op.store 43 (.tmp 12) (.tmp 35), type := _, pos := _, after := _, guard := _ } :: _) _ _); refine wpList_put (t := 43) rfl 43 (.tmp 12) (.tmp 35) rfl _ (by rfl) (by rfl) (by (repeat (first | (apply Blk.new'; simp; done) | apply Blk.alloc | apply Blk.drew))) (by rfl) (by kernel_rfl) (by simp [Value.oneCell']) ?_; intro w7 hb7 hk7; have Hb7 := Lib.hid hb7; have Hk7 := Lib.hid hk7; clear hb7 hk7)
             have K7 := Lib.hid (K6.out.trans (((Kept.refl [] w6).alloc _).trans Hk7.out (fun i hi => .inr (by simp at hi; omega))) (by simp))
             have X7 := Lib.hid (Bx.out.kept K7.out (by simp)))
          | (((with_reducible show wpList _ _ _ ({ dst := none, op := Op.store 26 (.tmp 2) (.tmp 39), type := _, pos := _, after := _, guard := _ } :: _) _ _); refine wpList_put (t := 26) rfl 26 (.tmp 2) (.tmp 39) rfl _ (by rfl) (by rfl) (by exact X7.out) (by rfl) (by kernel_rfl) (by simp [Value.oneCell']) ?_; intro w9 hb9 hk9; have Hb9 := Lib.hid hb9; have Hk9 := Lib.hid hk9; clear hb9 hk9)
             have K9 := Lib.hid ((KW.out.trans K7.out (by simp)).trans Hk9.out (fun i hi => .inr (by simp at hi; omega)))))
        refine bodyPost_ret (results_cell2 (t := 26) Tryz.results15 (by rfl) Hb9.out _ Tryz.underlying26 rfl (by kernel_rfl)) rfl ?_
        exact RecvPost.bad K9.out HM.out
      · have i3 : (de != 0) = false := by simp [hd0]
        have HD0 := Lib.hid hd0
        obtain ⟨bv, hbv⟩ : ∃ b, (f.ver != 3) = b := ⟨_, rfl⟩
        have HBV : Hid (decide (f.ver ≠ 3) = bv) := Lib.hid (by rw [← hbv]; by_cases h : f.ver = 3 <;> simp [h])
        clear hd0
        cases ob
        all_goals
          go_wp2_with (first
            | (((with_reducible show wpList _ _ _ ({ dst := none, op := Op.store 45 (.tmp 11) (.tmp 31), type := _, pos := _, after := _, guard := _ } :: _) _ _); refine wpList_put (t := 45) rfl 45 (.tmp 11) (.tmp 31) rfl _ (by rfl) (by rfl) (by (repeat (first | (apply Blk.new'; simp; done) | apply Blk.alloc | apply Blk.drew))) (by rfl) (by kernel_rfl) (by simp [Value.oneCell']) ?_; intro w5 hb5 hk5; have Hb5 := Lib.hid hb5; have Hk5 := Lib.hid hk5; clear hb5 hk5)
               have K5 := Lib.hid (((Kept.refl [] wr).alloc _).trans Hk5.out (fun i hi => .inr (by simp at hi; omega)))
               have hx5 := Hb5.out.cell)
            | (go_at_call 34
               refine (Decode_any _ f (Hr.out.kept K5.out (by simp)) hfn).mono ?_
               rintro e w6 ⟨sl, rfl, hsl⟩
               rw [HR.out] at hsl ⊢
               rw [HDE.out]
               have BV6 := Lib.hid hsl
               have K6 := Lib.hid (K5.out.trans (LV.kept hsl) (by simp))
               have X6 := Lib.hid (Hb5.out.kept (LV.kept hsl) (by simp))
               obtain ⟨D1, d1, d2, rfl⟩ := BkV.form hsl
               clear hsl hx5)
            | (((with_reducible show wpList _ _ _ ({ dst := none, op := Op.store 43 (.tmp 12) (.tmp 35), type := _, pos := _, after := _, guard := _ } :: _) _ _); refine wpList_put (t := 43) rfl 43 (.tmp 12) (.tmp 35) rfl _ (by rfl) (by rfl) (by (repeat (first | (apply Blk.new'; simp; done) | apply Blk.alloc | apply Blk.drew))) (by rfl) (by kernel_rfl) (by simp [Value.oneCell']) ?_; intro w7 hb7 hk7; have Hb7 := Lib.hid hb7; have Hk7 := Lib.hid hk7; clear hb7 hk7)
               have hk67 := (((Kept.refl [] w6).alloc _).trans Hk7.out (fun i hi => .inr (by simp at hi; omega)) : Kept [] w6 w7)
               have K7 := Lib.hid (K6.out.trans hk67 (by simp))
               have hx7 := (X6.out.kept hk67 (by simp)).cell
               have hy7 := Hb7.out.cell
               have BV7 := Lib.hid (LV.wide (LV.go BkOk BV6.out hk67) (KR.out.trans K5.out (by simp)))
               clear hk67)
            | (at_builtin
               have hk8 : Kept [] w7 (w7.alloc (.cells #[.int .i64 r.kind, .int .u32 (r.tup.src.toNat : Nat), .int .u32 (r.tup.dst.toNat : Nat), .int .i64 r.tup.proto, .int .i64 r.tup.sport, .int .i64 r.tup.dport, .int .i64 r.fb, .int .i64 r.fg, .int .i64 r.fs, .int .i64 r.gen, .slice D1 d1 d2, .int .i64 r.back, .int .i64 r.until_, .int .i64 r.count] 43)) := (Kept.refl [] w7).alloc _
               have hN8 := (RN.out.go K7.out).go hk8
               have hB8 := LV.go BkOk BV7.out hk8
               apply wpList_recb (r := r) rfl (.tmp 46) (.tmp 48) rfl
               case hs => exact rfl
               case hN => exact hN8
               case hx => exact rfl
               case hb => exact Blk.new _ _ _
               case hr => exact hB8
               case hl => exact HJL.out
               intro A9 m9 c9 w9 hR9 hk9 hn9
               have R9 := Lib.hid hR9
               have X9 := Lib.hid ((Bx.out.kept (K7.out.trans hk8 (by simp)) (by simp)).kept hk9 (fun hm => by have := (hn9 _ hm).1; have := K1.out.size; have := X1.out.lt; omega))
               clear hk8 hN8 hB8 hR9 hk9 hn9))
          go_roundg (fm - (j + 1))
          case measure => omega
          case rel =>
            refine ⟨j + 1, _, _, _, by omega, rfl, rfl, ?_, by go_num, by rw [Htk.out, List.map_append]; have := R9.out; rw [← HR.out] at this; exact this, ?_, X9.out⟩
            · rw [Htk.out, List.any_append, OB.out]
              simp [← HBV.out]
            · intro x hx
              rw [Htk.out] at hx
              rcases List.mem_append.1 hx with hx | hx
              · exact DE.out x hx
              · obtain rfl : x = f := by simpa using hx
                rw [HDE.out, HD0.out]
    · obtain rfl : fm = j := by omega
      have i2 : ¬ (fm : Int) < (fm : Int) := by omega
      obtain ⟨L, hL⟩ : ∃ L, fs.map decR = L := ⟨_, rfl⟩
      have htf : fs.take fm = fs := List.take_of_length_le (by rw [FL.out]; exact Nat.le_refl _)
      have RL : Hid (RecN w1 wr (.slice B n d) L) := Lib.hid (by have := RN.out; rw [htf, hL] at this; exact this)
      have OL : Hid ((fs.any fun f => decide (f.ver ≠ 3)) = ob) := Lib.hid (by rw [← OB.out, htf])
      have LL : Hid (L.length = n) := Lib.hid (by have := LN.out; rw [htf, hL] at this; exact this)
      have BK : Hid (∀ r ∈ L, r.backs.length ≤ 1000) := Lib.hid (fun r hr => by
        rw [← hL] at hr
        obtain ⟨f, _, rfl⟩ := List.mem_map.1 hr
        have := dec_backs f
        omega)
      have RM : Hid (recvM bs = if wholeB L = false then (nilV, 0, 11) else if ob = true then (nilV, 0, 10) else if (L.getD (L.length - 2) default).kind ≠ 4 ∨ (L.getD (L.length - 2) default).back ≠ 65535 ∨ (runV nilV (L.take (L.length - 2))).2 ≠ 0 ∨ sameRs (recsV (runV nilV (L.take (L.length - 2))).1) (L.take (L.length - 2)) = false then (nilV, 0, 3)
          else ((runV nilV (L.take (L.length - 2))).1, (L.getD (L.length - 2) default).until_, 0)) := Lib.hid (by
        have hde : (fs.any fun f => decide (decE f ≠ 0)) = false := by
          rw [List.any_eq_false]
          intro f hf
          have := DE.out f (by rw [htf]; exact hf)
          simp [this]
        unfold recvM
        rw [HF.out.1, HF.out.2.2, if_neg (by rw [HSE.out]; simp), hde, if_neg (by simp), hL, OL.out])
      obtain ⟨Gx, hx1, hx2⟩ := RL.out.arr
      have AR := Lib.hid hx1
      have AG := Lib.hid hx2
      clear hL htf hx1 hx2
      cases hw : wholeB L
      · have HW := Lib.hid hw
        have HM : Hid (recvM bs = (nilV, 0, 11)) := Lib.hid (by rw [RM.out, if_pos hw])
        clear hw
        go_wp2_with (first
          | (go_at_call 35
             refine (whole_any _ L AR.out).mono ?_
             rintro e w6 ⟨rfl, hk6⟩
             rw [HW.out]
             have K6 := Lib.hid hk6
             have X6 := Lib.hid (Bx.out.kept hk6 (by simp))
             clear hk6)
          | (((with_reducible show wpList _ _ _ ({ dst := none, op := Op.store 26 (.tmp 2) (.tmp 55), type := _, pos := _, after := _, guard := _ } :: _) _ _); refine wpList_put (t := 26) rfl 26 (.tmp 2) (.tmp 55) rfl _ (by rfl) (by rfl) (by exact X6.out) (by rfl) (by kernel_rfl) (by simp [Value.oneCell']) ?_; intro w9 hb9 hk9; have Hb9 := Lib.hid hb9; have Hk9 := Lib.hid hk9; clear hb9 hk9)
             have K9 := Lib.hid ((KW.out.trans K6.out (by simp)).trans Hk9.out (fun i hi => .inr (by simp at hi; omega)))))
        refine bodyPost_ret (results_cell2 (t := 26) Tryz.results15 (by rfl) Hb9.out _ Tryz.underlying26 rfl (by kernel_rfl)) rfl ?_
        exact RecvPost.bad K9.out HM.out
      · have HW := Lib.hid hw
        have hn2 : 2 ≤ n := by rw [← LL.out]; exact whole_two hw
        cases ob
        rotate_left
        · have HM : Hid (recvM bs = (nilV, 0, 10)) := Lib.hid (by rw [RM.out, if_neg (by rw [hw]; simp), if_pos rfl])
          clear hw
          go_wp2_with (first
          | (go_at_call 35
             refine (whole_any _ L AR.out).mono ?_
             rintro e w6 ⟨rfl, hk6⟩
             rw [HW.out]
             have K6 := Lib.hid hk6
             have X6 := Lib.hid (Bx.out.kept hk6 (by simp))
             clear hk6)
          | (((with_reducible show wpList _ _ _ ({ dst := none, op := Op.store 26 (.tmp 2) (.tmp 58), type := _, pos := _, after := _, guard := _ } :: _) _ _); refine wpList_put (t := 26) rfl 26 (.tmp 2) (.tmp 58) rfl _ (by rfl) (by rfl) (by exact X6.out) (by rfl) (by kernel_rfl) (by simp [Value.oneCell']) ?_; intro w9 hb9 hk9; have Hb9 := Lib.hid hb9; have Hk9 := Lib.hid hk9; clear hb9 hk9)
             have K9 := Lib.hid ((KW.out.trans K6.out (by simp)).trans Hk9.out (fun i hi => .inr (by simp at hi; omega)))))
          refine bodyPost_ret (results_cell2 (t := 26) Tryz.results15 (by rfl) Hb9.out _ Tryz.underlying26 rfl (by kernel_rfl)) rfl ?_
          exact RecvPost.bad K9.out HM.out
        · obtain ⟨k, rfl⟩ : ∃ k, n = k + 2 := ⟨n - 2, by omega⟩
          have hkl : k < L.length := by rw [LL.out]; omega
          have RM2 := RM.out
          rw [if_neg (by rw [hw]; simp), if_neg (by simp), LL.out, Nat.add_sub_cancel, List.getD_eq_getElem?_getD, List.getElem?_eq_getElem hkl, Option.getD_some] at RM2
          obtain ⟨g, o, C, cn, cd, rfl, hg, hgG, hat, hbk⟩ := AR.out.at (k := k) hkl
          have HAT := Lib.hid hat
          have AT := Lib.hid (arr_take (k := k) AR.out (by omega))
          have BT : Hid (∀ r ∈ L.take k, r.backs.length ≤ 1000) := Lib.hid (fun r hr => BK.out r (List.mem_of_mem_take hr))
          generalize L[k]'hkl = r at *
          obtain ⟨T, hT⟩ : ∃ T, L.take k = T := ⟨_, rfl⟩
          rw [hT] at AT BT RM2
          obtain ⟨ok, hok⟩ : ∃ b, (decide ((runV nilV T).2 = 0) && sameRs (recsV (runV nilV T).1) T) = b := ⟨_, rfl⟩
          obtain ⟨R, hR⟩ : ∃ R, runV nilV T = R := ⟨_, rfl⟩
          obtain ⟨bk, hbk1⟩ : ∃ b, (r.kind != 4) = b := ⟨_, rfl⟩
          obtain ⟨bb, hbb1⟩ : ∃ b, (r.back != 65535) = b := ⟨_, rfl⟩
          have HC : Hid (recvM bs = if (bk || (bb || !ok)) = true then (nilV, 0, 3) else (R.1, r.until_, 0)) := Lib.hid (by
            rw [RM2, ← hok, ← hbk1, ← hbb1, ← hR]
            by_cases q1 : r.kind = 4
            · by_cases q2 : r.back = 65535
              · by_cases q3 : (runV nilV T).2 = 0
                · cases q4 : sameRs (recsV (runV nilV T).1) T <;> simp [q1, q2, q3]
                · simp [q1, q2, q3]
              · simp [q1, q2]
            · simp [q1])
          have HOK := Lib.hid hok
          have HRR := Lib.hid hR
          clear RM2 hok hR hat hbk hT hw hkl hgG hn2
          have iw : IntKind.i64.wrap ((k : Int) + 2 - 2) = (k : Int) := by rw [Int.add_sub_cancel]; exact IntWalk.i64_in _ (by omega)
          have iw2 : IntKind.i64.wrap (k : Int) = (k : Int) := IntWalk.i64_in _ (by omega)
          have j0 : (0 : Int) ≤ (k : Int) := by omega
          have j1 : (k : Int) < (k : Int) + 2 := by omega
          have j2 : (k : Int) ≤ (d : Int) := by omega
          go_upto_region 19 with (first
            | (go_at_call 35
               refine (whole_any _ L AR.out).mono ?_
               rintro e w6 ⟨rfl, hk6⟩
               rw [HW.out]
               have K6 := Lib.hid hk6
               have X6 := Lib.hid (Bx.out.kept hk6 (by simp))
               clear hk6))
          have hat6 := (show RecAt w6 g (o + k * 14) r (.slice C cn cd) from by
            obtain ⟨e0, e1, e2, e3, e4, e5, e6, e7, e8, e9, e10, e11, e12, e13⟩ := HAT.out
            have hq : ∀ j v, wr.cell? ⟨g, j, none⟩ = some v → w6.cell? ⟨g, j, none⟩ = some v := fun j v hv => (K6.out.cell (p := ⟨g, j, none⟩) (World.block_lt_of_cell? wr ⟨g, j, none⟩ hv) (by simp)).trans hv
            exact ⟨hq _ _ e0, hq _ _ e1, hq _ _ e2, hq _ _ e3, hq _ _ e4, hq _ _ e5, hq _ _ e6, hq _ _ e7, hq _ _ e8, hq _ _ e9, hq _ _ e10, hq _ _ e11, hq _ _ e12, hq _ _ e13⟩)
          obtain ⟨e0, e1, e2, e3, e4, e5, e6, e7, e8, e9, e10, e11, e12, e13⟩ := hat6
          have MP := Lib.hid (fun (w' : World) (hk : Kept [] wr w') => made_any w' T (RecArr.kept AT.out hk (by simp)) (fun q hq => Nat.lt_of_lt_of_le (AG.out q hq).2 hk.size) BT.out)
          go_upto_region 21 with (first
            | (((with_reducible show wpList _ _ _ ({ dst := none, op := Op.store 43 (.tmp 14) (.tmp 64), type := _, pos := _, after := _, guard := _ } :: _) _ _); refine wpList_put (t := 43) rfl 43 (.tmp 14) (.tmp 64) rfl _ (by rfl) (by rfl) (by (repeat (first | (apply Blk.new'; simp; done) | apply Blk.alloc | apply Blk.drew))) (by rfl) (by kernel_rfl) (by simp [Value.oneCell']) ?_; intro w7 hb7 hk7; have Hb7 := Lib.hid hb7; have Hk7 := Lib.hid hk7; clear hb7 hk7)
               have K7 := Lib.hid (K6.out.trans (((Kept.refl [] w6).alloc _).trans Hk7.out (fun i hi => .inr (by simp at hi; omega))) (by simp))
               have B7 := Hb7
               clear e0 e1 e2 e3 e4 e5 e6 e7 e8 e9 e10 e11 e12 e13)
            | (go_at_call 36
               refine (MP.out _ K7.out).mono ?_
               rintro e w8 hmp
               obtain ⟨hk8, E1, f1, g1, E2, f2, g2, E3, f3, g3, gen, rfl, hva⟩ := made_one hmp
               rw [HOK.out] at hva ⊢
               rw [HRR.out] at hva
               have K8 := Lib.hid (K7.out.trans hk8 (by simp))
               have B8 := Lib.hid (B7.out.kept hk8 (by simp))
               have HVA := Lib.hid hva
               clear hk8 hva hmp)
            | (((with_reducible show wpList _ _ _ ({ dst := none, op := Op.store 26 (.tmp 15) (.tmp 72), type := _, pos := _, after := _, guard := _ } :: _) _ _); refine wpList_put (t := 26) rfl 26 (.tmp 15) (.tmp 72) rfl _ (by rfl) (by rfl) (by (repeat (first | (apply Blk.new'; simp; done) | apply Blk.alloc | apply Blk.drew))) (by rfl) (by kernel_rfl) (by simp [Value.oneCell']) ?_; intro w10 hb10 hk10; have Hb10 := Lib.hid hb10; have Hk10 := Lib.hid hk10; clear hb10 hk10)
               have hk810 := (((Kept.refl [] w8).alloc _).trans Hk10.out (fun i hi => .inr (by simp at hi; omega)) : Kept [] w8 w10)
               have K10 := Lib.hid (K8.out.trans hk810 (by simp))
               have HK810 := Lib.hid hk810
               have R10 := Lib.hid (B8.out.kept hk810 (by simp))
               have X10 := Lib.hid (Bx.out.kept K10.out (by simp))
               have hr10 := R10.out.cell
               have hs10 := Hb10.out.cell
               have hx10 := X10.out.cell
               have hf10 := X10.out.frozen
               have hl10 : w.heap.size < w10.heap.size := X10.out.lt
               clear hk810))
          by_cases hbad : (bk || (bb || !ok)) = true
          · have HM : Hid (recvM bs = (nilV, 0, 3)) := Lib.hid (by rw [HC.out, if_pos hbad])
            have hways : bk = true ∨ (bk = false ∧ bb = true) ∨ (bk = false ∧ bb = false ∧ ok = false) := by
              cases bk <;> cases bb <;> cases ok <;> simp at hbad ⊢
            clear hbad
            rcases hways with rfl | ⟨rfl, rfl⟩ | ⟨rfl, rfl, rfl⟩
            all_goals
              go_wp2_with ((with_reducible show wpList _ _ _ ({ dst := none, op := Op.store 26 (.tmp 2) (.tmp 86), type := _, pos := _, after := _, guard := _ } :: _) _ _); refine wpList_put (t := 26) rfl 26 (.tmp 2) (.tmp 86) rfl _ (by rfl) (by rfl) (by exact X10.out) (by rfl) (by kernel_rfl) (by simp [Value.oneCell']) ?_; intro w9 hb9 hk9; have Hb9 := Lib.hid hb9; have Hk9 := Lib.hid hk9; clear hb9 hk9)
              refine bodyPost_ret (results_cell2 (t := 26) Tryz.results15 (by rfl) Hb9.out _ Tryz.underlying26 rfl (by kernel_rfl)) rfl ?_
              exact RecvPost.bad ((KW.out.trans K10.out (by simp)).trans Hk9.out (fun i hi => .inr (by simp at hi; omega))) HM.out
          · have HM : Hid (recvM bs = (R.1, r.until_, 0)) := Lib.hid (by rw [HC.out, if_neg hbad])
            obtain ⟨rfl, rfl, rfl⟩ : bk = false ∧ bb = false ∧ ok = true := by
              cases bk <;> cases bb <;> cases ok <;> simp at hbad ⊢
            obtain ⟨hgen, G9, hva, hg9⟩ := HVA.out rfl
            subst hgen
            have HV9 := Lib.hid hva
            have HG9 : Hid (∀ k ∈ G9, w.heap.size < k) := Lib.hid (fun k hk => by have h1 := hg9 k hk; have h2 := K7.out.size; omega)
            clear hg9
            clear hbad hva
            go_upto_region 23 with fail
            have BF : Hid (Blk ((((w10.setCell ⟨w.heap.size, 0, none⟩ (.int .i64 R.1.gen)).setCell ⟨w.heap.size, 1, none⟩ (.slice E1 f1 g1)).setCell ⟨w.heap.size, 2, none⟩ (.slice E2 f2 g2)).setCell ⟨w.heap.size, 3, none⟩ (.slice E3 f3 g3)) w.heap.size 26 #[.int .i64 R.1.gen, .slice E1 f1 g1, .slice E2 f2 g2, .slice E3 f3 g3]) := Lib.hid
              (blk_set (blk_set (blk_set (blk_set X10.out 0 _ rfl) 1 _ rfl) 2 _ rfl) 3 _ (by simp))
            have KF := Lib.hid (((((Kept.refl [w.heap.size] w10).setCell (p := ⟨w.heap.size, 0, none⟩) (.inl (by simp)) (.int .i64 R.1.gen)).setCell (p := ⟨w.heap.size, 1, none⟩) (.inl (by simp)) (.slice E1 f1 g1)).setCell (p := ⟨w.heap.size, 2, none⟩) (.inl (by simp)) (.slice E2 f2 g2)).setCell (p := ⟨w.heap.size, 3, none⟩) (.inl (by simp)) (.slice E3 f3 g3))
            have PF : Hid (RecvPost w bs (.returned (.tuple #[.agg #[.int .i64 R.1.gen, .slice E1 f1 g1, .slice E2 f2 g2, .slice E3 f3 g3], .int .i64 r.until_, .int .i64 0])) ((((w10.setCell ⟨w.heap.size, 0, none⟩ (.int .i64 R.1.gen)).setCell ⟨w.heap.size, 1, none⟩ (.slice E1 f1 g1)).setCell ⟨w.heap.size, 2, none⟩ (.slice E2 f2 g2)).setCell ⟨w.heap.size, 3, none⟩ (.slice E3 f3 g3))) := Lib.hid (by
              refine ⟨(KW.out.trans K10.out (by simp)).trans KF.out (fun i hi => .inr (by simp at hi; omega)), E1, f1, g1, E2, f2, g2, E3, f3, g3, G9, by rw [HM.out], ?_⟩
              rw [HM.out]
              exact (HV9.out.go HK810.out).kept KF.out (fun k hk hm => by have := HG9.out k hk; simp at hm; omega))
            go_region
            all_goals
              go_wp2
              refine bodyPost_ret (results_cell2 (t := 26) Tryz.results15 (by rfl) BF.out _ Tryz.underlying26 rfl (by kernel_rfl)) rfl ?_
              show RecvPost w bs (.returned (.tuple #[.agg #[.int .i64 R.1.gen, .slice E1 f1 g1, .slice E2 f2 g2, .slice E3 f3 g3], .int .i64 r.until_, .int .i64 0])) _
              first
                | with_reducible exact PF.out.drew
                | with_reducible exact PF.out
end
section
open Go.RowKit Go.ChangeShapes Go.WideShapes Go.Deep
set_option maxRecDepth 100000
theorem RW.ecell {t : TypeId} {W w : World} {b : Nat} {o : Option (List UInt8)} (h : RW t W b o w) : w.cell? ⟨b, 1, none⟩ = some (.int .i64 (erO o)) := by
  obtain ⟨G, ⟨⟨v, h, _⟩, _⟩, _⟩ := h
  have := h.cell 1
  simpa using this
set_option maxHeartbeats 3200000 in
theorem rTRead_any {W w : World} {b : Nat} {bs : List UInt8} (h : RWr W b (some bs) w) :
    Calls Tryz.prog 79 #[.pointer (some ⟨b, 0, none⟩)] w fun e w' => e = .returned (.tuple #[.agg #[.int .u32 ((rdT (some bs)).1.src.toNat : Nat), .int .u32 ((rdT (some bs)).1.dst.toNat : Nat), .int .i64 (rdT (some bs)).1.proto, .int .i64 (rdT (some bs)).1.sport, .int .i64 (rdT (some bs)).1.dport], .bool (rdT (some bs)).2]) ∧ RWr W b (nk (some bs) 13) w' ∧ Kept [b] w w' := by
  have hk0 : Kept [b] w (w.alloc (.cells #[.int .u32 0, .int .u32 0, .int .i64 0, .int .i64 0, .int .i64 0] 39)) := (Kept.refl _ _).alloc _
  have B := Lib.hid (show Blk (w.alloc (.cells #[.int .u32 0, .int .u32 0, .int .i64 0, .int .i64 0, .int .i64 0] 39)) w.heap.size 39 #[.int .u32 0, .int .u32 0, .int .i64 0, .int .i64 0, .int .i64 0] from by (repeat (first | (apply Blk.new'; simp; done) | apply Blk.alloc | apply Blk.drew)))
  have R := Lib.hid (h.go ((Kept.refl [] w).alloc (.cells #[.int .u32 0, .int .u32 0, .int .i64 0, .int .i64 0, .int .i64 0] 39)))
  have hb := h.lt
  have K := Lib.hid hk0
  clear h hk0
  obtain ⟨T, hT⟩ : ∃ T, tupOf (some bs) = T := ⟨_, rfl⟩
  have E1 := Lib.hid (show ((gk (some bs) 4 : Nat) : Int) = (T.src.toNat : Nat) by rw [← hT]; simp only [tupOf, gad_nat])
  have E2 := Lib.hid (show ((gk (nk (some bs) 4) 4 : Nat) : Int) = (T.dst.toNat : Nat) by rw [← hT]; simp only [tupOf, gad_nat])
  have E3 := Lib.hid (show ((gk (nk (nk (some bs) 4) 4) 1 : Nat) : Int) = T.proto by rw [← hT]; rfl)
  have E4 := Lib.hid (show ((gk (nk (nk (nk (some bs) 4) 4) 1) 2 : Nat) : Int) = T.sport by rw [← hT]; rfl)
  have E5 := Lib.hid (show ((gk (nk (nk (nk (nk (some bs) 4) 4) 1) 2) 2 : Nat) : Int) = T.dport by rw [← hT]; rfl)
  have hr : rdT (some bs) = if (nk (some bs) 13).isSome && mayT T then (T, true) else (default, false) := by simp [rdT, hT]
  have hN := Lib.hid (nkT_eq (some bs))
  have hE : erO (nk (nk (nk (nk (nk (some bs) 4) 4) 1) 2) 2) = if (nk (some bs) 13).isSome then 0 else 2 := by
    have := nkT_eq (some bs)
    unfold nkT at this
    rw [this]
    rfl
  cases hs : (nk (some bs) 13).isSome <;> cases hm : mayT T
  all_goals
    rw [hs, hm] at hr
    rw [hs] at hE
    have hq := Lib.hid hr
    have HE := Lib.hid hE
    clear hr hE hs hT
    go_enter Tryz.func79, Tryz.ntmps79
    go_wp2_with (first
      | (go_at_call 81
         go_must (refine (EU32 R.out).mono ?_)
         go_must (rintro e w1 ⟨rfl, h1, k1⟩)
         go_must (first | rw [E1.out] | rw [E2.out])
         go_must (have B := Lib.hid (B.out.kept k1 (by simp <;> omega)))
         go_must (have hb1 := h1.lt)
         go_must (have R := Lib.hid h1)
         go_must (have K := Lib.hid (K.out.trans k1 (by simp)))
         go_must (clear h1 k1))
      | (go_at_call 83
         go_must (refine (EU8 R.out).mono ?_)
         go_must (rintro e w3 ⟨rfl, h1, k1⟩)
         go_must (rw [E3.out])
         go_must (have B := Lib.hid (B.out.kept k1 (by simp <;> omega)))
         go_must (have hb3 := h1.lt)
         go_must (have R := Lib.hid h1)
         go_must (have K := Lib.hid (K.out.trans k1 (by simp)))
         go_must (clear h1 k1))
      | (go_at_call 80
         go_must (refine (EU16 R.out).mono ?_)
         go_must (rintro e w4 ⟨rfl, h1, k1⟩)
         go_must (first | rw [E4.out] | rw [E5.out])
         go_must (have B := Lib.hid (B.out.kept k1 (by simp <;> omega)))
         go_must (have hb4 := h1.lt)
         go_must (have R := Lib.hid h1)
         go_must (have K := Lib.hid (K.out.trans k1 (by simp)))
         go_must (clear h1 k1)
         go_must (first | (have hcr := (R.out.go ((Kept.refl [] w4).alloc (.cells #[.int .u32 (T.src.toNat : Nat), .int .u32 (T.dst.toNat : Nat), .int .i64 T.proto, .int .i64 T.sport, .int .i64 T.dport] 39))).ecell; rw [HE.out] at hcr; simp only [if_true, if_false, Bool.false_eq_true] at hcr) | (clear hcr) | skip))
      | (go_at_call 65
         go_must (refine (rtMay_any _ T).mono ?_)
         go_must (rintro e w6 ⟨rfl, k1⟩)
         go_must (rw [hm])
         go_must (have X := Lib.hid ((show Blk (w4.alloc (.cells #[.int .u32 (T.src.toNat : Nat), .int .u32 (T.dst.toNat : Nat), .int .i64 T.proto, .int .i64 T.sport, .int .i64 T.dport] 39)) w4.heap.size 39 #[.int .u32 (T.src.toNat : Nat), .int .u32 (T.dst.toNat : Nat), .int .i64 T.proto, .int .i64 T.sport, .int .i64 T.dport] from by (repeat (first | (apply Blk.new'; simp; done) | apply Blk.alloc | apply Blk.drew))).kept k1 (by simp)))
         go_must (have hcx := X.out.cell)
         go_must (have B := Lib.hid ((B.out.alloc _).kept k1 (by simp)))
         go_must (have R := Lib.hid ((R.out.go ((Kept.refl [] w4).alloc _)).go k1))
         go_must (have K := Lib.hid ((K.out.alloc _).trans k1 (by simp)))
         go_must (clear k1 hcr))
      | ((with_reducible show wpList _ _ _ ({ dst := none, op := Op.store 39 (.tmp 2) (.tmp 26), type := _, pos := _, after := _, guard := _ } :: _) _ _); refine wpList_put (t := 39) rfl 39 (.tmp 2) (.tmp 26) rfl _ (by rfl) (by rfl) (by exact B.out) (by rfl) (by kernel_rfl) (by simp [Value.oneCell']) ?_; intro w9 hb9 hk9; have Hb9 := Lib.hid hb9; have Hk9 := Lib.hid hk9; clear hb9 hk9)
      | ((with_reducible show wpList _ _ _ ({ dst := none, op := Op.store 39 (.tmp 2) (.tmp 26), type := _, pos := _, after := _, guard := _ } :: _) _ _); refine wpList_put (t := 39) rfl 39 (.tmp 2) (.tmp 26) rfl _ (by rfl) (by rfl) (by exact B.out.alloc _) (by rfl) (by kernel_rfl) (by simp [Value.oneCell']) ?_; intro w9 hb9 hk9; have Hb9 := Lib.hid hb9; have Hk9 := Lib.hid hk9; clear hb9 hk9)
      | ((with_reducible show wpList _ _ _ ({ dst := none, op := Op.store 39 (.tmp 2) (.tmp 27), type := _, pos := _, after := _, guard := _ } :: _) _ _); refine wpList_put (t := 39) rfl 39 (.tmp 2) (.tmp 27) rfl _ (by rfl) (by rfl) (by exact B.out) (by rfl) (by kernel_rfl) (by simp [Value.oneCell']) ?_; intro w9 hb9 hk9; have Hb9 := Lib.hid hb9; have Hk9 := Lib.hid hk9; clear hb9 hk9))
    refine bodyPost_ret (results_cell1 (t := 39) Tryz.results79 (by rfl) Hb9.out _ Tryz.underlying39 rfl (by kernel_rfl)) rfl ?_
    rw [hq.out]
    first
      | (have hK9 := K.out.trans Hk9.out (fun i hi => .inr (by simp at hi; omega))
         have hR9 := R.out.other Hk9.out (by simp; omega))
      | (have hK9 := (K.out.alloc _).trans Hk9.out (fun i hi => .inr (by simp at hi; omega))
         have hR9 := (R.out.go ((Kept.refl _ _).alloc _)).other Hk9.out (by simp; omega))
    exact ⟨rfl, hN.out ▸ hR9, hK9⟩
end
end Go.Proofs.YtkacghjglicjiaaGreat
