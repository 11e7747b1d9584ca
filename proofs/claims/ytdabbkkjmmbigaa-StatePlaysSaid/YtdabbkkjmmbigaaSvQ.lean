
/-
  StatePlays: the walk.
-/
import Derived.Test.YtdabbkkjmmbigaaSvP
import Derived.Test.YtdabbkkjmmbigaaSvN
namespace Go.Proofs.Ytdabbkkjmmbigaa
open Go.RowKit Go.ChangeShapes Go.WideShapes Go.ChangeAt Go.Deep Go.MapKept
set_option linter.unusedVariables false

theorem RecV.arr {W w : World} {v : Value} {l : List RecD} (h : RecV W w v l) : ∃ G, RecArr w G v l ∧ ∀ k ∈ G, k < w.heap.size := by
  obtain ⟨css, G, hx⟩ := h
  exact ⟨_, hx.arr RecOk, fun k hk => hx.lt k hk⟩
theorem sameR_self (r : RecD) : sameR r r = true := sameR_iff.2 rfl
theorem sameRs_self : ∀ l : List RecD, sameRs l l = true
  | [] => rfl
  | r :: l => by unfold sameRs; rw [sameR_self, sameRs_self l]; rfl
theorem recs_backs {V : VwD} (h : V.backs.length ≤ 1000) : ∀ r ∈ recsV V, r.backs.length ≤ 1000 := by
  intro r hr
  unfold recsV at hr
  rcases List.mem_cons.1 hr with rfl | hr
  · exact h
  · rcases List.mem_append.1 hr with hr | hr
    · obtain ⟨d, _, rfl⟩ := List.mem_map.1 hr
      show ([] : List BackD).length ≤ 1000
      simp
    · obtain ⟨d, _, rfl⟩ := List.mem_map.1 hr
      show ([] : List BackD).length ≤ 1000
      simp
theorem isView_new : IsView newS ⟨0, [], [], []⟩ := ⟨rfl, rfl, List.Perm.refl _, List.Pairwise.nil, List.Perm.refl _, List.Pairwise.nil⟩
theorem get_same {S : StD} (ok : OkS S) {V : VwD} (h : IsView S V) {w w' : World} {k : TupD} {e : Ending} (hp : FlGetPost w V.flows k e w') :
    e = .returned (.tuple #[evF ((getM S.flows k).getD zFl), .bool (getM S.flows k).isSome]) ∧ Kept [] w w' := by
  obtain ⟨hk, ⟨hn, rfl⟩ | ⟨i, hi, ht, rfl⟩⟩ := hp
  · have hg : getM S.flows k = none := getM_none.2 fun p hp e => hn _ (h.fp.mem_iff.2 (List.mem_map_of_mem hp)) (by rw [ok.own p hp, e])
    rw [hg]
    exact ⟨rfl, hk⟩
  · have hg := h.flow ok (List.getElem_mem hi)
    rw [ht] at hg
    rw [hg]
    exact ⟨rfl, hk⟩
set_option maxRecDepth 100000 in
set_option maxHeartbeats 16000000 in
theorem StatePlays_walk0 (w : World) {G : List Nat} {A : Option Addr} {m c : Nat} (l : List RecD) (k : TupD) (h : RecArr w G (.slice A m c) l) (hG : ∀ g ∈ G, g < w.heap.size) :
    Calls Try.prog 6 #[.slice A m c, .agg #[.int .u32 (k.src.toNat : Nat), .int .u32 (k.dst.toNat : Nat), .int .i64 k.proto, .int .i64 k.sport, .int .i64 k.dport]] w fun e w' => e = .returned (.bool true) ∧ Kept [] w w' := by
  obtain ⟨a1, a2, a3, a4⟩ := h.len
  have H := Lib.hid h
  have HG := Lib.hid hG
  have A1 := Lib.hid a1
  clear h a1 a4 hG
  unfold maxLen at a3
  have K0 := Lib.hid ((Kept.refl [] w).alloc (.cells #[.int .u32 (k.src.toNat : Nat), .int .u32 (k.dst.toNat : Nat), .int .i64 k.proto, .int .i64 k.sport, .int .i64 k.dport] 29))
  have X0 := Lib.hid (Blk.new w 29 #[.int .u32 (k.src.toNat : Nat), .int .u32 (k.dst.toNat : Nat), .int .i64 k.proto, .int .i64 k.sport, .int .i64 k.dport])
  have hs0 : w.heap.size < (w.alloc (.cells #[.int .u32 (k.src.toNat : Nat), .int .u32 (k.dst.toNat : Nat), .int .i64 k.proto, .int .i64 k.sport, .int .i64 k.dport] 29)).heap.size := by simp
  have Li := Lib.hid (light_any _ l (RecArr.kept H.out K0.out (by simp)))
  have AW := Lib.hid (fun w' => awake14_any w')
  go_enter Try.func6, Try.ntmps6
  cases hl : lightB l
  · have HL := Lib.hid hl
    clear hl
    go_wp2_with (first
      | (go_at_call 13
         with_reducible refine Li.out.mono ?_
         rintro e w1 ⟨rfl, hk1⟩
         rw [HL.out]
         have K1 := Lib.hid (K0.out.trans hk1 (by simp))
         clear hk1)
      | (go_at_call 12
         refine (AW.out _).mono ?_
         rintro e wy ⟨rfl, hky⟩
         have KY := Lib.hid (K1.out.trans hky (by simp))
         clear hky))
    go_ret
    exact ⟨rfl, KY.out⟩
  have HL := Lib.hid hl
  have LI := Lib.hid (light_iff.1 hl)
  clear hl
  have hm : m ≤ 200 := by rw [← A1.out]; exact LI.out.1
  go_upto_region 4 with (first
    | (go_at_call 13
       with_reducible refine Li.out.mono ?_
       rintro e w1 ⟨rfl, hk1⟩
       rw [HL.out]
       have K1 := Lib.hid (K0.out.trans hk1 (by simp))
       have X1 := Lib.hid (X0.out.kept hk1 (by simp))
       have hs1 : w.heap.size < w1.heap.size := Nat.lt_of_lt_of_le hs0 hk1.size
       clear hk1)
    | (go_at_call 9
       refine (New_p _).mono ?_
       rintro e w3 ⟨p, bd, bf, rfl, hn⟩
       have hsz := K1.out.size
       have P3 : Hid (StP w w3 p bd bf newS) := Lib.hid (by
         obtain ⟨Ax, mx, cx, hx⟩ := hn
         exact ⟨Ax, mx, cx, hx.blk, hx.md, hx.mf, LV.wide hx.bk K1.out, by have := hx.hp; omega, by have := hx.hd; omega, by have := hx.hf; omega, hx.ne⟩)
       have X3 := Lib.hid (X1.out.kept hn.kept (by simp))
       have hs3 : w.heap.size < w3.heap.size := Nat.lt_of_lt_of_le hs1 hn.kept.size
       clear hn))
  obtain ⟨q, hq⟩ : ∃ q, w3.heap.size = q := ⟨_, rfl⟩
  have LT := Lib.hid P3.out.lts
  have HQ : Hid (w.heap.size < q ∧ q ≠ p ∧ q ≠ bd ∧ q ≠ bf) := Lib.hid (by have := LT.out; omega)
  have K34 := Lib.hid ((Kept.refl [] w3).alloc (.cells #[.int .i64 0, .slice none 0 0, .slice none 0 0, .slice none 0 0] 55))
  have D4 : Hid (DvAt (w3.alloc (.cells #[.int .i64 0, .slice none 0 0, .slice none 0 0, .slice none 0 0] 55)) q [] ⟨0, [], [], []⟩) := Lib.hid
    ⟨none, 0, 0, none, 0, 0, none, 0, 0, Blk.new' w3 hq _ _, ⟨arr_none _ _ _ _ _ rfl, arr_none _ _ _ _ _ rfl, arr_none _ _ _ _ _ rfl, by simp⟩, by simp⟩
  have P4 := Lib.hid (P3.out.go K34.out)
  have X4 := Lib.hid (X3.out.kept K34.out (by simp))
  have HNG : Hid (∀ g ∈ G, g ∉ [p, bd, bf]) := Lib.hid (fun g hg hm => by
    have h1 := HG.out g hg
    have h2 := LT.out
    simp at hm
    omega)
  rw [hq]
  obtain ⟨w4, hw4⟩ : ∃ w4, w3.alloc (.cells #[.int .i64 0, .slice none 0 0, .slice none 0 0, .slice none 0 0] 55) = w4 := ⟨_, rfl⟩
  rw [hw4] at D4 P4 X4 K34
  simp only [hw4]
  have LT4 : Hid ((p < q ∧ bd < q ∧ bf < q) ∧ w.heap.size ≤ p ∧ w.heap.size ≤ bd ∧ w.heap.size ≤ bf) := Lib.hid (by have := LT.out; omega)
  clear hw4 hq Li K0 X0 K1 X1 X3 P3 hs0 hs1 hs3 HL LT K34
  go_wp2
  go_loopg [25] m (fun gg i wr => ∃ (j : Nat) (S : StD) (V : VwD) (GV : List Nat), j ≤ m ∧ gg = m - j ∧ i = .int .i64 j ∧ OkS S ∧ IsView S V ∧ StP w wr p bd bf S ∧ DvAt wr q GV V ∧ (∀ g ∈ GV, q < g) ∧ Blk wr w.heap.size 29 #[.int .u32 (k.src.toNat : Nat), .int .u32 (k.dst.toNat : Nat), .int .i64 k.proto, .int .i64 k.sport, .int .i64 k.dport])
  case atStart => exact ⟨0, newS, ⟨0, [], [], []⟩, [], by omega, by omega, rfl, OkS.new, isView_new, P4.out, D4.out, by simp, X4.out⟩
  case round =>
    clear P4 D4 X4
    obtain ⟨j, S, V, GV, hj, rfl, rfl, hok, hiv, hst, hdv, hgv, hbx⟩ := hrel
    have Ok := Lib.hid hok
    have Iv := Lib.hid hiv
    have St := Lib.hid hst
    have Dv := Lib.hid hdv
    have Gv := Lib.hid hgv
    have Bx := Lib.hid hbx
    have NV : Hid (∀ g ∈ GV, g ∉ [p, bd, bf]) := Lib.hid (fun g hg hm => by
      have h1 := Gv.out g hg
      have h2 := LT4.out
      simp at hm
      omega)
    clear hok hiv hst hdv hgv hbx
    by_cases hlt : j < m
    · have hkl : j < l.length := by rw [A1.out]; exact hlt
      obtain ⟨g, o, B, n, d, rfl, hg, hgG, hat, hbk⟩ := (RecArr.kept H.out St.out.kept (by simp)).at (k := j) hkl
      have Hbk := Lib.hid hbk
      have hn1 : n ≤ 40 := by rw [← hbk.len.1]; exact LI.out.2 _ (List.getElem_mem hkl)
      clear hbk
      generalize l[j]'hkl = x at *
      obtain ⟨c0, c1', c2', c3', c4, c5, c6, c7, c8, c9, c10, c11, c12, c13⟩ := hat
      have i0 : (0 : Int) ≤ (j : Int) := by omega
      have i1 : (j : Int) < (m : Int) := by omega
      have iw : IntKind.i64.wrap ((j : Int) + 1) = (j : Int) + 1 := IntWalk.i64_in _ (by omega)
      have VAp := Lib.hid (view_apply Ok.out Iv.out x)
      have LEN := Lib.hid (Iv.out.lens Ok.out)
      obtain ⟨e0, he0⟩ : ∃ e0, errS S x = e0 := ⟨_, rfl⟩
      have HE := Lib.hid he0
      have i4 : (e0 != e0) = false := by simp
      clear he0
      go_upto_region 9 with (
        (((with_reducible show wpList _ _ _ ({ dst := none, op := Op.store 34 (.tmp 8) (.tmp 28), type := _, pos := _, after := _, guard := _ } :: _) _ _); refine wpList_put (t := 34) rfl 34 (.tmp 8) (.tmp 28) rfl _ (by rfl) (by rfl) (by (repeat (first | (apply Blk.new'; simp; done) | apply Blk.alloc | apply Blk.drew))) (by rfl) (by kernel_rfl) (by simp [Value.oneCell']) ?_; intro w5 hb5 hk5; have Hb5 := Lib.hid hb5; have Hk5 := Lib.hid hk5; clear hb5 hk5)
         have K5 := Lib.hid (((Kept.refl [] wr).alloc _).trans Hk5.out (fun i hi => .inr (by simp at hi; omega)))
         have hx5 := Hb5.out.cell))
      have D5 := Lib.hid (Dv.out.go K5.out)
      have S5 := Lib.hid (St.out.go K5.out)
      have T5 := Lib.hid (Bx.out.kept K5.out (by simp))
      have SB5 := Lib.hid (BkArr.kept Hbk.out K5.out (by simp))
      have KW := Lib.hid St.out.kept
      clear hx5
      have SD := Lib.hid (S5.out.go ((Kept.refl [] w5).drew))
      have DD := Lib.hid (D5.out.go ((Kept.refl [] w5).drew))
      have TD := Lib.hid (T5.out.kept ((Kept.refl [] w5).drew) (by simp))
      have XD := Lib.hid (Hb5.out.kept ((Kept.refl [] w5).drew) (by simp))
      have BD := Lib.hid (BkArr.kept SB5.out ((Kept.refl [] w5).drew) (by simp))
      have GD : Hid (∀ g ∈ G, g < w5.drew.heap.size) := Lib.hid (fun g hg => Nat.lt_of_lt_of_le (HG.out g hg) SD.out.kept.size)
      go_region_held3 (fun w' => ∀ o, w'.cell? ⟨wr.heap.size, o, none⟩ = (#[.int .i64 x.kind, .int .u32 (x.tup.src.toNat : Nat), .int .u32 (x.tup.dst.toNat : Nat), .int .i64 x.tup.proto, .int .i64 x.tup.sport, .int .i64 x.tup.dport, .int .i64 x.fb, .int .i64 x.fg, .int .i64 x.fs, .int .i64 x.gen, .slice B n d, .int .i64 x.back, .int .i64 x.until_, .int .i64 x.count] : Array Value)[o]?)
        (exact (by first | exact X7.out.cell | exact X6.out.cell | exact XD.out.cell))
        (first
          | (go_at_call 10
             refine (apply_p SD.out Ok.out x (⟨BD.out, GD.out, by omega⟩ : SmallB w5.drew G B n d x.backs)).mono ?_
             rintro e w6 ⟨rfl, hs6, hk6, hb6⟩
             rw [HE.out]
             have S6 := Lib.hid hs6
             have X6 := Lib.hid (hb6 _ _ _ XD.out (by decide))
             have T6 := Lib.hid (hb6 _ _ _ TD.out (by decide))
             have D6 := Lib.hid (DD.out.kept hk6 (by have := HQ.out; simp; omega) NV.out)
             have B6 := Lib.hid (BkArr.kept BD.out hk6 HNG.out)
             have hx6 := X6.out.cell
             have hqq6 : Hid (w5.drew.heap.size ≤ w6.heap.size) := Lib.hid hk6.size
             clear hs6 hk6 hb6)
          | (go_at_call 18
             refine (rApply_any D6.out (by have := LEN.out; omega) (by have := LEN.out; omega) Iv.out.fs x (⟨B6.out, fun g hg => Nat.lt_of_lt_of_le (HG.out g hg) S6.out.kept.size, by omega⟩ : SmallB w6 G B n d x.backs)).mono ?_
             rintro e w7 ⟨rfl, hk7, G7, hd7, hg7⟩
             rw [VAp.out.1, HE.out]
             have hqb : ∃ cs, Blk w6 q 55 cs := (by obtain ⟨_, _, _, _, _, _, _, _, _, hb, _⟩ := D6.out; exact ⟨_, hb⟩)
             have S7 : Hid (StP w w7 p bd bf (applyS S x)) := Lib.hid (by obtain ⟨cs, hb⟩ := hqb; exact S6.out.far hb (by decide) (by decide) (by have := HQ.out; omega) hk7)
             have D7 := Lib.hid hd7
             have X7 := Lib.hid (X6.out.kept hk7 (by have := D6.out; have := St.out.kept.size; obtain ⟨_, _, _, _, _, _, _, _, _, hb, _⟩ := Dv.out; have := hb.lt; simp; omega))
             have T7 := Lib.hid (T6.out.kept hk7 (by have := HQ.out; simp; omega))
             have G7h : Hid (∀ g ∈ G7, q < g) := Lib.hid (fun g hg => by
               rcases hg7 g hg with hh | hh
               · exact Gv.out g hh
               · obtain ⟨_, _, _, _, _, _, _, _, _, hb, _⟩ := D6.out
                 have := hb.lt
                 omega)
             have hx7 := X7.out.cell
             clear hd7 hg7 hqb hk7))
      all_goals
        go_wp2
        go_roundg (m - (j + 1))
        case measure => omega
        case rel => exact ⟨j + 1, applyS S x, applyV V x, G7, by omega, rfl, by go_num, Ok.out.apply x, VAp.out.2, S7.out, D7.out, G7h.out, T7.out⟩
    · obtain rfl : m = j := by omega
      have i1 : ¬ (m : Int) < (m : Int) := by omega
      obtain ⟨A1', m1, c1, A2', m2, c2, A3', m3, c3, hqb, hva, hqn⟩ := Dv.out
      have QB := Lib.hid hqb
      have VAq := Lib.hid hva
      have LEN := Lib.hid (Iv.out.lens Ok.out)
      have hqc := hqb.cell
      have hql := hqb.lt
      have hbc := Bx.out.cell
      have hbl := Bx.out.lt
      have GS := Lib.hid (fun w' (hk : Kept [] wr w') => Get_any (St.out.go hk).b k)
      obtain ⟨F, hF⟩ : ∃ F, (getM S.flows k).getD zFl = F := ⟨_, rfl⟩
      obtain ⟨fb, hfb⟩ : ∃ b, (getM S.flows k).isSome = b := ⟨_, rfl⟩
      have HF := Lib.hid (And.intro hF hfb)
      clear hqb hva hF hfb a2 a3 hm
      go_upto_region 15 with (first
        | (go_at_call 14
           refine (GS.out _ ((Kept.refl [] wr).alloc (.cells #[.slice A3' m3 c3, .int .i64 0, .int .i64 0] 58))).mono ?_
           rintro e w6 ⟨rfl, hk6⟩
           rw [HF.out.1, HF.out.2]
           have K6 := Lib.hid (((Kept.refl [] wr).alloc (.cells #[.slice A3' m3 c3, .int .i64 0, .int .i64 0] 58)).trans hk6 (by simp))
           have F6 := Lib.hid ((Blk.new wr 58 #[.slice A3' m3 c3, .int .i64 0, .int .i64 0]).kept hk6 (by simp))
           clear hk6)
        | (((with_reducible show wpList _ _ _ ({ dst := none, op := Op.store 31 (.tmp 10) (.tmp 48), type := _, pos := _, after := _, guard := _ } :: _) _ _); refine wpList_put (t := 31) rfl 31 (.tmp 10) (.tmp 48) rfl _ (by rfl) (by rfl) (by (repeat (first | (apply Blk.new'; simp; done) | apply Blk.alloc | apply Blk.drew))) (by rfl) (by kernel_rfl) (by simp [Value.oneCell']) ?_; intro w7 hb7 hk7; have Hb7 := Lib.hid hb7; have Hk7 := Lib.hid hk7; clear hb7 hk7)
           have hk67 := (((Kept.refl [] w6).alloc _).trans Hk7.out (fun i hi => .inr (by simp at hi; omega)) : Kept [] w6 w7)
           have K7 := Lib.hid (K6.out.trans hk67 (by simp))
           have F7 := Lib.hid (F6.out.kept hk67 (by simp))
           have T7 := Lib.hid (Bx.out.kept K7.out (by simp))
           have ht7 := T7.out.cell
           clear hk67)
        | (go_at_call 19
           refine (FlGet_any (A := A3') (m := m3) (c := c3) _ ⟨F7.out, (VAq.out.go K7.out).fl, (VAq.out.go K7.out).lt, fun hm => by have := VAq.out.lt _ hm; omega⟩ k).mono ?_
           rintro e w8 hpost
           obtain ⟨rfl, hk8⟩ := get_same Ok.out Iv.out hpost
           rw [HF.out.1, HF.out.2]
           have K8 := Lib.hid (K7.out.trans hk8 (by simp))
           have FB8 := Lib.hid (Hb7.out.kept hk8 (by simp))
           clear hk8 hpost)
        | (((with_reducible show wpList _ _ _ ({ dst := none, op := Op.store 31 (.tmp 12) (.tmp 54), type := _, pos := _, after := _, guard := _ } :: _) _ _); refine wpList_put (t := 31) rfl 31 (.tmp 12) (.tmp 54) rfl _ (by rfl) (by rfl) (by (repeat (first | (apply Blk.new'; simp; done) | apply Blk.alloc | apply Blk.drew))) (by rfl) (by kernel_rfl) (by simp [Value.oneCell']) ?_; intro w9 hb9 hk9; have Hb9 := Lib.hid hb9; have Hk9 := Lib.hid hk9; clear hb9 hk9)
           have hk89 := (((Kept.refl [] w8).alloc _).trans Hk9.out (fun i hi => .inr (by simp at hi; omega)) : Kept [] w8 w9)
           have K9 := Lib.hid (K8.out.trans hk89 (by simp))
           have FA9 := Lib.hid (FB8.out.kept hk89 (by simp))
           have FB9 := Hb9
           have Q9 := Lib.hid (QB.out.kept K9.out (by simp))
           clear hk89))
      clear hqc hbc ht7
      have FAD := Lib.hid (FA9.out.kept ((Kept.refl [] w9).drew) (by simp))
      have FBD := Lib.hid (FB9.out.kept ((Kept.refl [] w9).drew) (by simp))
      have QD := Lib.hid (Q9.out.kept ((Kept.refl [] w9).drew) (by simp))
      have KD := Lib.hid (K9.out.drew)
      have hqf := eqF_run F F
      have hgf : Try.prog.eqGuardType Try.prog.depth 31 = false := by kernel_rfl
      rw [decide_eq_true (rfl : F = F)] at hqf
      have hbb : (fb == fb) = true := by simp
      have SS := Lib.hid (fun w' (hk : Kept [] wr w') => St.out.go hk)
      have VS := Lib.hid (fun w' (hk : Kept [] wr w') => VAq.out.go hk)
      have RL := Lib.hid (recs_len Iv.out)
      have hqm : q ∉ ([] : List Nat) := by simp
      have KEEP := Lib.hid (fun (w' : World) (hkx : Kept [] w9.drew w') => (show (∀ o, w'.cell? ⟨q, o, none⟩ = (#[.int .i64 V.gen, .slice A1' m1 c1, .slice A2' m2 c2, .slice A3' m3 c3] : Array Value)[o]?) ∧ (∀ o, w'.cell? ⟨w6.heap.size, o, none⟩ = (#[.int .u32 (F.tup.src.toNat : Nat), .int .u32 (F.tup.dst.toNat : Nat), .int .i64 F.tup.proto, .int .i64 F.tup.sport, .int .i64 F.tup.dport, .int .i64 F.back, .int .i64 F.gen, .int .i64 F.seen] : Array Value)[o]?) ∧ (∀ o, w'.cell? ⟨w8.heap.size, o, none⟩ = (#[.int .u32 (F.tup.src.toNat : Nat), .int .u32 (F.tup.dst.toNat : Nat), .int .i64 F.tup.proto, .int .i64 F.tup.sport, .int .i64 F.tup.dport, .int .i64 F.back, .int .i64 F.gen, .int .i64 F.seen] : Array Value)[o]?) from ⟨(QD.out.kept hkx (by simp)).cell, (FAD.out.kept hkx (by simp)).cell, (FBD.out.kept hkx (by simp)).cell⟩))
      go_region_held3 (fun w' => (∀ o, w'.cell? ⟨q, o, none⟩ = (#[.int .i64 V.gen, .slice A1' m1 c1, .slice A2' m2 c2, .slice A3' m3 c3] : Array Value)[o]?) ∧ (∀ o, w'.cell? ⟨w6.heap.size, o, none⟩ = (#[.int .u32 (F.tup.src.toNat : Nat), .int .u32 (F.tup.dst.toNat : Nat), .int .i64 F.tup.proto, .int .i64 F.tup.sport, .int .i64 F.tup.dport, .int .i64 F.back, .int .i64 F.gen, .int .i64 F.seen] : Array Value)[o]?) ∧ (∀ o, w'.cell? ⟨w8.heap.size, o, none⟩ = (#[.int .u32 (F.tup.src.toNat : Nat), .int .u32 (F.tup.dst.toNat : Nat), .int .i64 F.tup.proto, .int .i64 F.tup.sport, .int .i64 F.tup.dport, .int .i64 F.back, .int .i64 F.gen, .int .i64 F.seen] : Array Value)[o]?))
        (first | with_reducible exact KEEP.out _ KI.out | with_reducible exact KEEP.out _ KH.out | with_reducible exact KEEP.out _ KG.out | with_reducible exact KEEP.out _ KF.out | with_reducible exact KEEP.out _ KE.out | with_reducible exact KEEP.out _ KC.out | with_reducible exact KEEP.out _ KB.out | with_reducible exact KEEP.out _ KA.out | with_reducible exact KEEP.out _ (Kept.refl _ _))
        (first
          | (go_at_call 15
             refine (view_p (SS.out _ KD.out) Ok.out).mono ?_
             rintro e wv ⟨V2, t1, p1, q1, t2, p2, q2, t3, p3, q3, G2, rfl, hv2, hva2, _, hk2⟩
             obtain rfl : V2 = V := hv2.one Ok.out Iv.out
             have KA : Hid (Kept [] w9.drew wv) := Lib.hid hk2
             have VN := Lib.hid hva2
             have VQ := Lib.hid (VS.out _ (KD.out.trans KA.out (by simp)))
             clear hv2 hva2 hk2)
          | (go_at_call 20
             refine (rSameState_any _ V2 V2 VN.out VQ.out).mono ?_
             rintro e wa ⟨rfl, hka⟩
             rw [sameV_self]
             have KB : Hid (Kept [] w9.drew wa) := Lib.hid (KA.out.trans hka (by simp))
             clear hka)
          | (go_at_call 22
             refine (Records_any (SS.out _ (KD.out.trans KB.out (by simp))).b Ok.out).mono ?_
             rintro e wb ⟨V3, B1, n1, d1, rfl, hv3, hr3⟩
             obtain rfl : V3 = V2 := hv3.one Ok.out Iv.out
             have KC : Hid (Kept [] w9.drew wb) := Lib.hid (KB.out.trans hr3.kept (by simp))
             have R3 := Lib.hid hr3
             clear hv3 hr3)
          | (go_at_call 23
             with_reducible refine (rRecs_any wb _ (VS.out _ (KD.out.trans KC.out (by simp))) (by have := LEN.out; omega) (by have := LEN.out; omega)).mono ?_
             rintro e wc ⟨B2, n2, d2, rfl, hr4⟩
             have KE : Hid (Kept [] w9.drew wc) := Lib.hid (KC.out.trans (LV.kept hr4) (by simp))
             have R4 := Lib.hid hr4
             have R3c := Lib.hid (R3.out.go (LV.kept hr4))
             clear hr4)
          | (go_at_call 21
             have hR3 := R3c.out.arr
             have hR4 := RecV.arr R4.out
             have hn12 : n1 = n2 := by obtain ⟨_, h1, _⟩ := hR3; obtain ⟨_, h2, _⟩ := hR4; rw [← h1.len.1, ← h2.len.1]
             subst hn12
             have hcall := (show Calls Try.prog 21 #[.slice B1 n1 d1, .slice B2 n1 d2] wc (fun e w' => e = .returned (.bool (sameRs (recsV V3) (recsV V3))) ∧ Kept [] wc w') from by
               obtain ⟨Gx, h1, h2⟩ := hR3
               obtain ⟨Gy, h3, h4⟩ := hR4
               exact rSameRs_any wc (recsV V3) (recsV V3) h1 h3 (fun k hk => (h2 k hk).2) h4 (recs_backs (by have := LEN.out; omega)) (recs_backs (by have := LEN.out; omega)))
             refine hcall.mono ?_
             rintro e wd ⟨rfl, hkd⟩
             rw [sameRs_self]
             have KF : Hid (Kept [] w9.drew wd) := Lib.hid (KE.out.trans hkd (by simp))
             clear hkd hR3 hR4 hcall)
          | (go_at_call 11
             refine (StLen_any (SS.out _ (KD.out.trans KF.out (by simp))).b Ok.out).mono ?_
             rintro e we ⟨rfl, nd, hwe⟩
             rw [← RL.out]
             have KG : Hid (Kept [] w9.drew we) := Lib.hid (by rw [hwe]; exact KF.out.drewN nd)
             clear hwe)
          | (go_at_call 23
             with_reducible refine (rRecs_any we _ (VS.out _ (KD.out.trans KG.out (by simp))) (by have := LEN.out; omega) (by have := LEN.out; omega)).mono ?_
             rintro e wg ⟨B5, n5, d5, rfl, hr5⟩
             have KH : Hid (Kept [] w9.drew wg) := Lib.hid (KG.out.trans (LV.kept hr5) (by simp))
             have hn5 : n5 = (recsV V3).length := (by obtain ⟨_, h1, _⟩ := RecV.arr hr5; exact h1.len.1.symm)
             subst hn5
             clear hr5)
          | (go_at_call 12
             refine (AW.out _).mono ?_
             rintro e wh ⟨rfl, hkh⟩
             have KI : Hid (Kept [] w9.drew wh) := Lib.hid (KH.out.trans hkh (by simp))
             clear hkh))
      all_goals
        go_wp2
        go_ret
        exact ⟨rfl, (St.out.kept.trans KD.out (by simp)).trans KI.out (by simp)⟩
set_option maxRecDepth 100000 in
theorem StatePlays_walk {H : Type} {enc : TypeId × Value → H} {S : Prop} (W : World) (base : Nat) (v0 : Value) (d0 : DataW H) (p0 : List MemPlace) (v1 : Value) (d1 : DataW H) (p1 : List MemPlace)
    (hv0 : Value.okWide Try.prog W .any base 38 v0) (hv1 : Value.okWide Try.prog W .any base 29 v1)
    (h0 : DataW.Trod enc Try.prog W 0 (fun _ => true) true 38 v0 d0 p0) (h1 : DataW.Trod enc Try.prog W 0 (fun _ => true) true 29 v1 d1 p1) (_ : S) :
    Calls Try.prog 6 #[v0, v1] W fun e W' => e = .returned (.bool true) ∧ Below W.heap.size W W' := by
  obtain ⟨A, m, c, l, rfl, hl⟩ := open_records hv0 h0
  obtain ⟨k, rfl⟩ := open_tuple_v hv1 h1
  exact (StatePlays_walk0 W l k hl (fun g hg => List.mem_range.1 hg)).mono fun e W' ⟨h, hk⟩ => ⟨h, hk.below (Nat.le_refl _) (by simp)⟩
end Go.Proofs.Ytdabbkkjmmbigaa
