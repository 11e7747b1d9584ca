
/-
  The document's state out of a view.
-/
import Derived.Test.YtdabbkkjmmbigaaGreatSvP
import Derived.Test.YtdabbkkjmmbigaaGreatSvI
import Derived.Test.YtdabbkkjmmbigaaGreatSuF
namespace Go.Proofs.YtdabbkkjmmbigaaGreat
open Go.RowKit Go.ChangeShapes Go.WideShapes Go.ChangeAt Go.Deep Go.MapKept
set_option linter.unusedVariables false

theorem recs_small {V : VwD} {n : Nat} (h : V.backs.length ≤ n) : ∀ r ∈ recsV V, r.backs.length ≤ n := by
  intro r hr
  unfold recsV at hr
  rcases List.mem_cons.1 hr with rfl | hr
  · exact h
  · rcases List.mem_append.1 hr with hr | hr
    · obtain ⟨d, _, rfl⟩ := List.mem_map.1 hr
      exact Nat.zero_le _
    · obtain ⟨d, _, rfl⟩ := List.mem_map.1 hr
      exact Nat.zero_le _
theorem isView_nil : IsView newS ⟨0, [], [], []⟩ := ⟨rfl, rfl, List.Perm.refl _, List.Pairwise.nil, List.Perm.refl _, List.Pairwise.nil⟩
set_option maxRecDepth 100000 in
set_option maxHeartbeats 16000000 in
theorem rOf_any (w : World) {G : List Nat} {A1 A2 A3 : Option Addr} {m1 c1 m2 c2 m3 c3 : Nat} (V : VwD) (h : VA w G A1 m1 c1 A2 m2 c2 A3 m3 c3 V) (hd : V.drains.length ≤ 1000) (hf : V.flows.length ≤ 1000) (hb : V.backs.length ≤ 1000) :
    Calls Tryz.prog 6 #[.agg #[.int .i64 V.gen, .slice A1 m1 c1, .slice A2 m2 c2, .slice A3 m3 c3]] w fun e w' => ∃ S e0, runS newS (recsV V) = (S, e0) ∧ Kept [] w w' ∧ ((e0 ≠ 0 ∧ e = .returned (.tuple #[.pointer none, .int .i64 e0])) ∨ (e0 = 0 ∧ ∃ V', IsView S V' ∧ ((sameV V' V = true ∧ ∃ q, e = .returned (.tuple #[.pointer (some ⟨q, 0, none⟩), .int .i64 0])) ∨ (sameV V' V = false ∧ e = .returned (.tuple #[.pointer none, .int .i64 1]))))) := by
  have H := Lib.hid h
  have RA := Lib.hid (fun w' (hk : Kept [] w w') => rRecs_g w' V (h.go hk) hd hf)
  have X0 := Lib.hid (Blk.new w 26 #[.int .i64 V.gen, .slice A1 m1 c1, .slice A2 m2 c2, .slice A3 m3 c3])
  have K0 := Lib.hid ((Kept.refl [] w).alloc (.cells #[.int .i64 V.gen, .slice A1 m1 c1, .slice A2 m2 c2, .slice A3 m3 c3] 26))
  have hs0 : w.heap.size < (w.alloc (.cells #[.int .i64 V.gen, .slice A1 m1 c1, .slice A2 m2 c2, .slice A3 m3 c3] 26)).heap.size := by simp
  have HBL := Lib.hid (recs_small hb)
  clear h hd hf hb
  go_enter Tryz.func6, Tryz.ntmps6
  go_upto_region 2 with fail
  obtain ⟨w1, hw1⟩ : ∃ w1, w.alloc (.cells #[.int .i64 V.gen, .slice A1 m1 c1, .slice A2 m2 c2, .slice A3 m3 c3] 26) = w1 := ⟨_, rfl⟩
  have hz1 : w1.heap.size = w.heap.size + 1 := by rw [← hw1]; simp
  rw [hw1] at X0 K0 hs0
  simp only [hw1]
  obtain ⟨q, hq0⟩ : ∃ q, w.heap.size + 1 = q := ⟨_, rfl⟩
  have hq : w1.heap.size = q := by rw [hz1, hq0]
  have HQ : Hid (w.heap.size < q) := Lib.hid (by omega)
  have KA := Lib.hid ((Kept.refl [] w1).alloc (.cells #[.int .i64 0, .slice none 0 0, .slice none 0 0, .slice none 0 0] 52))
  have DA : Hid (DvAt (w1.alloc (.cells #[.int .i64 0, .slice none 0 0, .slice none 0 0, .slice none 0 0] 52)) q [] ⟨0, [], [], []⟩) := Lib.hid
    ⟨none, 0, 0, none, 0, 0, none, 0, 0, Blk.new' w1 hq _ _, ⟨arr_none _ _ _ _ _ rfl, arr_none _ _ _ _ _ rfl, arr_none _ _ _ _ _ rfl, by simp⟩, by simp⟩
  have XA := Lib.hid (X0.out.kept KA.out (by simp))
  have K1 := Lib.hid (K0.out.trans KA.out (by simp))
  have hqa : q < (w1.alloc (.cells #[.int .i64 0, .slice none 0 0, .slice none 0 0, .slice none 0 0] 52)).heap.size := by simp; omega
  simp only [hq0]
  obtain ⟨wa, hwa⟩ : ∃ wa, w1.alloc (.cells #[.int .i64 0, .slice none 0 0, .slice none 0 0, .slice none 0 0] 52) = wa := ⟨_, rfl⟩
  rw [hwa] at DA XA K1 hqa
  simp only [hwa]
  have hxa := XA.out.cell
  clear hwa hw1 hq hz1 hq0 X0 K0 KA hs0
  go_wp2_with (go_at_call 15
               refine (RA.out _ K1.out).mono ?_
               rintro e w2 ⟨A, m, c, rfl, hr⟩
               have R2 := Lib.hid hr
               have D2 := Lib.hid (DA.out.go hr.kept)
               have X2 := Lib.hid (XA.out.kept hr.kept (by simp))
               have K2 := Lib.hid (K1.out.trans hr.kept (by simp))
               clear hr)
  obtain ⟨Gr, har, hgr⟩ := R2.out.arr
  have L2 := Lib.hid har.len
  have hln : c ≤ 2 ^ 63 - 1 := har.len.2.2.1
  have hmc : m ≤ c := har.len.2.1
  have HGr : Hid (∀ k ∈ Gr, k < w2.heap.size ∧ k ≠ q) := Lib.hid (fun k hk => ⟨(hgr k hk).1, by
    rcases (hgr k hk).2 with h1 | h1
    · have := H.out.lt k h1; have := HQ.out; omega
    · omega⟩)
  have AR := Lib.hid har
  obtain ⟨l, hl⟩ : ∃ l, recsV V = l := ⟨_, rfl⟩
  simp only [hl] at R2 AR L2 HBL
  have Hl := Lib.hid hl
  clear hl RA har hgr hxa hqa
  go_loopg [13] m (fun gg i wr => ∃ (j : Nat) (S : StD) (T : VwD) (GV : List Nat), j ≤ m ∧ gg = m - j ∧ i = .int .i64 j ∧ OkS S ∧ IsView S T ∧ runS newS l = runS S (l.drop j) ∧ DvAt wr q GV T ∧ (∀ g ∈ GV, q < g) ∧ RecArr wr Gr (.slice A m c) l ∧ Blk wr w.heap.size 26 #[.int .i64 V.gen, .slice A1 m1 c1, .slice A2 m2 c2, .slice A3 m3 c3] ∧ Kept [] w wr ∧ w2.heap.size ≤ wr.heap.size)
  case atStart => exact ⟨0, newS, ⟨0, [], [], []⟩, [], by omega, by omega, rfl, OkS.new, isView_nil, by rw [List.drop_zero], D2.out, by simp, AR.out, X2.out, K2.out, Nat.le_refl _⟩
  case round =>
    obtain ⟨j, S, T, GV, hj, rfl, rfl, hok, hiv, hrun, hdv, hgv, hra, hbx, hkw, hsz⟩ := hrel
    have Ok := Lib.hid hok
    have Iv := Lib.hid hiv
    have Run := Lib.hid hrun
    have Dv := Lib.hid hdv
    have Gv := Lib.hid hgv
    have Ra := Lib.hid hra
    have Bx := Lib.hid hbx
    have KW := Lib.hid hkw
    have hlw : w.heap.size < wr.heap.size := hbx.lt
    clear hok hiv hrun hdv hgv hra hbx hkw
    by_cases hlt : j < m
    · have hkl : j < l.length := by rw [L2.out.1]; exact hlt
      obtain ⟨g, o, B, n, d, rfl, hg, hgG, hat, hbk⟩ := Ra.out.at (k := j) hkl
      have Hbk := Lib.hid hbk
      have hn1 : n ≤ 1000 := by rw [← hbk.len.1]; exact HBL.out _ (List.getElem_mem hkl)
      have Hdr := Lib.hid (drop_cons hkl)
      clear hbk
      generalize l[j]'hkl = r at *
      obtain ⟨c0, c1', c2', c3', c4, c5, c6, c7, c8, c9, c10, c11, c12, c13⟩ := hat
      have i0 : (0 : Int) ≤ (j : Int) := by omega
      have i1 : (j : Int) < (m : Int) := by omega
      have iw : IntKind.i64.wrap ((j : Int) + 1) = (j : Int) + 1 := IntWalk.i64_in _ (by omega)
      have VAp := Lib.hid (view_apply Ok.out Iv.out r)
      have LEN := Lib.hid (Iv.out.lens Ok.out)
      have AP := Lib.hid (fun (w' : World) (hk : Kept [] wr w') => rApply_any (Dv.out.go hk) (by have := LEN.out; omega) (by have := LEN.out; omega) Iv.out.fs r (⟨BkArr.kept Hbk.out hk (by simp), fun k hk' => Nat.lt_of_lt_of_le (HGr.out k hk').1 (Nat.le_trans hsz hk.size), by omega⟩ : SmallB w' Gr B n d r.backs))
      by_cases he : errS S r = 0
      · have HE := Lib.hid he
        clear he
        go_wp2_with (first
          | (((with_reducible show wpList _ _ _ ({ dst := none, op := Op.store 45 (.tmp 6) (.tmp 16), type := _, pos := _, after := _, guard := _ } :: _) _ _); refine wpList_put (t := 45) rfl 45 (.tmp 6) (.tmp 16) rfl _ (by rfl) (by rfl) (by (repeat (first | (apply Blk.new'; simp; done) | apply Blk.alloc | apply Blk.drew))) (by rfl) (by kernel_rfl) (by simp [Value.oneCell']) ?_; intro w5 hb5 hk5; have Hb5 := Lib.hid hb5; have Hk5 := Lib.hid hk5; clear hb5 hk5)
             have K5 := Lib.hid (((Kept.refl [] wr).alloc _).trans Hk5.out (fun i hi => .inr (by simp at hi; omega)))
             have hx5 := Hb5.out.cell)
          | (go_at_call 16
             refine (AP.out _ K5.out).mono ?_
             rintro e w6 ⟨rfl, hk6, G6, hd6, hg6⟩
             rw [VAp.out.1, HE.out]
             have D6 := Lib.hid hd6
             have X6 := Lib.hid ((Bx.out.kept K5.out (by simp)).kept hk6 (by have := HQ.out; simp; omega))
             have A6 := Lib.hid (RecArr.kept (RecArr.kept Ra.out K5.out (by simp)) hk6 (by
               intro k hk hm
               have h1 := (HGr.out k hk).2
               simp at hm
               omega))
             have K6 := Lib.hid ((KW.out.trans K5.out (by simp)).trans hk6 (by have := HQ.out; simp; omega))
             have hs6 : Hid (w2.heap.size ≤ w6.heap.size) := Lib.hid (Nat.le_trans hsz (Nat.le_trans K5.out.size hk6.size))
             have G6h : Hid (∀ g ∈ G6, q < g) := Lib.hid (fun g hg => by
               rcases hg6 g hg with hh | hh
               · exact Gv.out g hh
               · obtain ⟨_, _, _, _, _, _, _, _, _, hb, _⟩ := Dv.out
                 have := hb.lt
                 have := K5.out.size
                 omega)
             clear hd6 hk6 hg6))
        go_roundg (m - (j + 1))
        case measure => omega
        case rel => exact ⟨j + 1, applyS S r, applyV T r, G6, by omega, rfl, by go_num, Ok.out.apply r, VAp.out.2, by rw [Run.out, Hdr.out, run_cons HE.out], D6.out, G6h.out, A6.out, X6.out, K6.out, hs6.out⟩
      · obtain ⟨e0, he0⟩ : ∃ e0, errS S r = e0 := ⟨_, rfl⟩
        have hres := Lib.hid (show runS newS l = (S, e0) by rw [Run.out, Hdr.out, ← he0]; exact if_neg he)
        have HE : Hid (errS S r = e0) := Lib.hid he0
        have HN : Hid (e0 ≠ 0) := Lib.hid (by rw [← he0]; exact he)
        have i3 : (e0 == 0) = false := by rw [← he0]; simp [he]
        have i4 : (e0 != 0) = true := by rw [← he0]; simp [he]
        clear he he0
        go_wp2_with (first
          | (((with_reducible show wpList _ _ _ ({ dst := none, op := Op.store 45 (.tmp 6) (.tmp 16), type := _, pos := _, after := _, guard := _ } :: _) _ _); refine wpList_put (t := 45) rfl 45 (.tmp 6) (.tmp 16) rfl _ (by rfl) (by rfl) (by (repeat (first | (apply Blk.new'; simp; done) | apply Blk.alloc | apply Blk.drew))) (by rfl) (by kernel_rfl) (by simp [Value.oneCell']) ?_; intro w5 hb5 hk5; have Hb5 := Lib.hid hb5; have Hk5 := Lib.hid hk5; clear hb5 hk5)
             have K5 := Lib.hid (((Kept.refl [] wr).alloc _).trans Hk5.out (fun i hi => .inr (by simp at hi; omega)))
             have hx5 := Hb5.out.cell)
          | (go_at_call 16
             refine (AP.out _ K5.out).mono ?_
             rintro e w6 ⟨rfl, hk6, G6, hd6, hg6⟩
             rw [VAp.out.1, HE.out]
             have K6 := Lib.hid ((KW.out.trans K5.out (by simp)).trans hk6 (by have := HQ.out; simp; omega))
             clear hd6 hk6 hg6))
        go_ret2
        exact ⟨S, e0, (by rw [Hl.out]; exact hres.out), K6.out, .inl ⟨HN.out, rfl⟩⟩
    · obtain rfl : m = j := by omega
      have i1 : ¬ (m : Int) < (m : Int) := by omega
      have hres := Lib.hid (show runS newS l = (S, 0) by
        rw [Run.out, List.drop_of_length_le (by rw [L2.out.1]; exact Nat.le_refl _)]; rfl)
      obtain ⟨B1, n1, d1, B2, n2, d2, B3, n3, d3, hqb, hva, hqn⟩ := Dv.out
      have QB := Lib.hid hqb
      have VQ := Lib.hid hva
      have hqc := QB.out.cell
      have hql := QB.out.lt
      have hx := Bx.out.cell
      have VV := Lib.hid (H.out.go KW.out)
      clear hqb hva
      have KEEP := Lib.hid (fun (w' : World) (hkx : Kept [] wr w') => (show (∀ o, w'.cell? ⟨w.heap.size, o, none⟩ = (#[.int .i64 V.gen, .slice A1 m1 c1, .slice A2 m2 c2, .slice A3 m3 c3] : Array Value)[o]?) ∧ (∀ o, w'.cell? ⟨q, o, none⟩ = (#[.int .i64 T.gen, .slice B1 n1 d1, .slice B2 n2 d2, .slice B3 n3 d3] : Array Value)[o]?) from ⟨(Bx.out.kept hkx (by simp)).cell, (QB.out.kept hkx (by simp)).cell⟩))
      have KD := Lib.hid ((Kept.refl [] wr).drew)
      have VD := Lib.hid (VV.out.go KD.out)
      have QD := Lib.hid (VQ.out.go KD.out)
      go_wp2
      go_region_held3 (fun w' => (∀ o, w'.cell? ⟨w.heap.size, o, none⟩ = (#[.int .i64 V.gen, .slice A1 m1 c1, .slice A2 m2 c2, .slice A3 m3 c3] : Array Value)[o]?) ∧ (∀ o, w'.cell? ⟨q, o, none⟩ = (#[.int .i64 T.gen, .slice B1 n1 d1, .slice B2 n2 d2, .slice B3 n3 d3] : Array Value)[o]?))
        (first | with_reducible exact KEEP.out _ K8.out | with_reducible exact KEEP.out _ KD.out | with_reducible exact KEEP.out _ (Kept.refl _ _))
        ((go_at_call 8
          refine (rSameState_any _ T V QD.out VD.out).mono ?_
          rintro e w8 ⟨rfl, hk8⟩
          have K8 := Lib.hid (KD.out.trans hk8 (by simp))
          obtain ⟨b, hsv⟩ : ∃ b, sameV T V = b := ⟨_, rfl⟩
          rw [hsv]
          have HSV := Lib.hid hsv
          clear hk8 hsv))
      all_goals
        cases b
        · go_wp2
          go_ret2
          exact ⟨S, 0, (by rw [Hl.out]; exact hres.out), KW.out.trans K8.out (by simp), .inr ⟨rfl, T, Iv.out, .inr ⟨HSV.out, rfl⟩⟩⟩
        · go_wp2
          go_ret2
          exact ⟨S, 0, (by rw [Hl.out]; exact hres.out), KW.out.trans K8.out (by simp), .inr ⟨rfl, T, Iv.out, .inl ⟨HSV.out, q, rfl⟩⟩⟩
end Go.Proofs.YtdabbkkjmmbigaaGreat
