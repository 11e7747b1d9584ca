/-
  A slice of bytes of the call's own, its length hidden; what is appended to it, step by step.
-/
import Derived.Test.YtkacghjglicjiaaGreatSvB
import Derived.Test.YtkacghjglicjiaaGreatSvI
import Derived.Test.YtkacghjglicjiaaGreatSvP
import Derived.ArgAppend
import Derived.Test.YtkacghjglicjiaaGreatLv
import Derived.Test.YtkacghjglicjiaaGreatRecP
namespace Go.Proofs.YtkacghjglicjiaaGreat
set_option linter.unusedVariables false
section
open Go.RowKit Go.ChangeShapes Go.WideShapes Go.ChangeAt Go.Deep Go.MapKept
theorem recs_small {V : VwD} {n : Nat} (h : V.backs.length ≤ n) : ∀ r ∈ recsV V, r.backs.length ≤ n := by
  intro r hr
  unfold recsV at hr
  rcases List.mem_cons.1 hr with rfl | hr
  · exact h
  · rcases List.mem_append.1 hr with hr | hr
    · obtain ⟨d, _, rfl⟩ := List.mem_map.1 hr
      exact Nat.zero_le _
    · obtain ⟨d, _, rfl⟩ := List.mem_map.1 hr
      exact Nat.zero_le _
theorem isView_nil : IsView newS ⟨0, [], [], []⟩ := ⟨rfl, rfl, List.Perm.refl _, List.Pairwise.nil, List.Perm.refl _, List.Pairwise.nil⟩
set_option maxRecDepth 100000 in
set_option maxHeartbeats 16000000 in
theorem rOf_any (w : World) {G : List Nat} {A1 A2 A3 : Option Addr} {m1 c1 m2 c2 m3 c3 : Nat} (V : VwD) (h : VA w G A1 m1 c1 A2 m2 c2 A3 m3 c3 V) (hd : V.drains.length ≤ 1000) (hf : V.flows.length ≤ 1000) (hb : V.backs.length ≤ 1000) :
    Calls Tryz.prog 24 #[.agg #[.int .i64 V.gen, .slice A1 m1 c1, .slice A2 m2 c2, .slice A3 m3 c3]] w fun e w' => ∃ S e0, runS newS (recsV V) = (S, e0) ∧ Kept [] w w' ∧ ((e0 ≠ 0 ∧ e = .returned (.tuple #[.pointer none, .int .i64 e0])) ∨ (e0 = 0 ∧ ∃ V', IsView S V' ∧ ((sameV V' V = true ∧ ∃ q, e = .returned (.tuple #[.pointer (some ⟨q, 0, none⟩), .int .i64 0])) ∨ (sameV V' V = false ∧ e = .returned (.tuple #[.pointer none, .int .i64 1]))))) := by
  have H := Lib.hid h
  have RA := Lib.hid (fun w' (hk : Kept [] w w') => rRecs_g w' V (h.go hk) hd hf)
  have X0 := Lib.hid (Blk.new w 26 #[.int .i64 V.gen, .slice A1 m1 c1, .slice A2 m2 c2, .slice A3 m3 c3])
  have K0 := Lib.hid ((Kept.refl [] w).alloc (.cells #[.int .i64 V.gen, .slice A1 m1 c1, .slice A2 m2 c2, .slice A3 m3 c3] 26))
  have hs0 : w.heap.size < (w.alloc (.cells #[.int .i64 V.gen, .slice A1 m1 c1, .slice A2 m2 c2, .slice A3 m3 c3] 26)).heap.size := by simp
  have HBL := Lib.hid (recs_small hb)
  clear h hd hf hb
  go_enter Tryz.func24, Tryz.ntmps24
  go_upto_region 2 with fail
  obtain ⟨w1, hw1⟩ : ∃ w1, w.alloc (.cells #[.int .i64 V.gen, .slice A1 m1 c1, .slice A2 m2 c2, .slice A3 m3 c3] 26) = w1 := ⟨_, rfl⟩
  have hz1 : w1.heap.size = w.heap.size + 1 := by rw [← hw1]; simp
  rw [hw1] at X0 K0 hs0
  simp only [hw1]
  obtain ⟨q, hq0⟩ : ∃ q, w.heap.size + 1 = q := ⟨_, rfl⟩
  have hq : w1.heap.size = q := by rw [hz1, hq0]
  have HQ : Hid (w.heap.size < q) := Lib.hid (by omega)
  have KA := Lib.hid ((Kept.refl [] w1).alloc (.cells #[.int .i64 0, .slice none 0 0, .slice none 0 0, .slice none 0 0] 62))
  have DA : Hid (DvAt (w1.alloc (.cells #[.int .i64 0, .slice none 0 0, .slice none 0 0, .slice none 0 0] 62)) q [] ⟨0, [], [], []⟩) := Lib.hid
    ⟨none, 0, 0, none, 0, 0, none, 0, 0, Blk.new' w1 hq _ _, ⟨arr_none _ _ _ _ _ rfl, arr_none _ _ _ _ _ rfl, arr_none _ _ _ _ _ rfl, by simp⟩, by simp⟩
  have XA := Lib.hid (X0.out.kept KA.out (by simp))
  have K1 := Lib.hid (K0.out.trans KA.out (by simp))
  have hqa : q < (w1.alloc (.cells #[.int .i64 0, .slice none 0 0, .slice none 0 0, .slice none 0 0] 62)).heap.size := by simp; omega
  simp only [hq0]
  obtain ⟨wa, hwa⟩ : ∃ wa, w1.alloc (.cells #[.int .i64 0, .slice none 0 0, .slice none 0 0, .slice none 0 0] 62) = wa := ⟨_, rfl⟩
  rw [hwa] at DA XA K1 hqa
  simp only [hwa]
  have hxa := XA.out.cell
  clear hwa hw1 hq hz1 hq0 X0 K0 KA hs0
  go_wp2_with (go_at_call 25
               refine (RA.out _ K1.out).mono ?_
               rintro e w2 ⟨A, m, c, rfl, hr⟩
               have R2 := Lib.hid hr
               have D2 := Lib.hid (DA.out.go hr.kept)
               have X2 := Lib.hid (XA.out.kept hr.kept (by simp))
               have K2 := Lib.hid (K1.out.trans hr.kept (by simp))
               clear hr)
  obtain ⟨Gr, har, hgr⟩ := R2.out.arr
  have L2 := Lib.hid har.len
  have hln : c ≤ 2 ^ 63 - 1 := har.len.2.2.1
  have hmc : m ≤ c := har.len.2.1
  have HGr : Hid (∀ k ∈ Gr, k < w2.heap.size ∧ k ≠ q) := Lib.hid (fun k hk => ⟨(hgr k hk).1, by
    rcases (hgr k hk).2 with h1 | h1
    · have := H.out.lt k h1; have := HQ.out; omega
    · omega⟩)
  have AR := Lib.hid har
  obtain ⟨l, hl⟩ : ∃ l, recsV V = l := ⟨_, rfl⟩
  simp only [hl] at R2 AR L2 HBL
  have Hl := Lib.hid hl
  clear hl RA har hgr hxa hqa
  go_loopg [13] m (fun gg i wr => ∃ (j : Nat) (S : StD) (T : VwD) (GV : List Nat), j ≤ m ∧ gg = m - j ∧ i = .int .i64 j ∧ OkS S ∧ IsView S T ∧ runS newS l = runS S (l.drop j) ∧ DvAt wr q GV T ∧ (∀ g ∈ GV, q < g) ∧ RecArr wr Gr (.slice A m c) l ∧ Blk wr w.heap.size 26 #[.int .i64 V.gen, .slice A1 m1 c1, .slice A2 m2 c2, .slice A3 m3 c3] ∧ Kept [] w wr ∧ w2.heap.size ≤ wr.heap.size)
  case atStart => exact ⟨0, newS, ⟨0, [], [], []⟩, [], by omega, by omega, rfl, OkS.new, isView_nil, by rw [List.drop_zero], D2.out, by simp, AR.out, X2.out, K2.out, Nat.le_refl _⟩
  case round =>
    obtain ⟨j, S, T, GV, hj, rfl, rfl, hok, hiv, hrun, hdv, hgv, hra, hbx, hkw, hsz⟩ := hrel
    have Ok := Lib.hid hok
    have Iv := Lib.hid hiv
    have Run := Lib.hid hrun
    have Dv := Lib.hid hdv
    have Gv := Lib.hid hgv
    have Ra := Lib.hid hra
    have Bx := Lib.hid hbx
    have KW := Lib.hid hkw
    have hlw : w.heap.size < wr.heap.size := hbx.lt
    clear hok hiv hrun hdv hgv hra hbx hkw
    by_cases hlt : j < m
    · have hkl : j < l.length := by rw [L2.out.1]; exact hlt
      obtain ⟨g, o, B, n, d, rfl, hg, hgG, hat, hbk⟩ := Ra.out.at (k := j) hkl
      have Hbk := Lib.hid hbk
      have hn1 : n ≤ 1000 := by rw [← hbk.len.1]; exact HBL.out _ (List.getElem_mem hkl)
      have Hdr := Lib.hid (drop_cons hkl)
      clear hbk
      generalize l[j]'hkl = r at *
      obtain ⟨c0, c1', c2', c3', c4, c5, c6, c7, c8, c9, c10, c11, c12, c13⟩ := hat
      have i0 : (0 : Int) ≤ (j : Int) := by omega
      have i1 : (j : Int) < (m : Int) := by omega
      have iw : IntKind.i64.wrap ((j : Int) + 1) = (j : Int) + 1 := IntWalk.i64_in _ (by omega)
      have VAp := Lib.hid (view_apply Ok.out Iv.out r)
      have LEN := Lib.hid (Iv.out.lens Ok.out)
      have AP := Lib.hid (fun (w' : World) (hk : Kept [] wr w') => rApply_any (Dv.out.go hk) (by have := LEN.out; omega) (by have := LEN.out; omega) Iv.out.fs r (⟨BkArr.kept Hbk.out hk (by simp), fun k hk' => Nat.lt_of_lt_of_le (HGr.out k hk').1 (Nat.le_trans hsz hk.size), by omega⟩ : SmallB w' Gr B n d r.backs))
      by_cases he : errS S r = 0
      · have HE := Lib.hid he
        clear he
        go_wp2_with (first
          | (((with_reducible show wpList _ _ _ ({ dst := none, op := Op.store 43 (.tmp 6) (.tmp 16), type := _, pos := _, after := _, guard := _ } :: _) _ _); refine wpList_put (t := 43) rfl 43 (.tmp 6) (.tmp 16) rfl _ (by rfl) (by rfl) (by (repeat (first | (apply Blk.new'; simp; done) | apply Blk.alloc | apply Blk.drew))) (by rfl) (by kernel_rfl) (by simp [Value.oneCell']) ?_; intro w5 hb5 hk5; have Hb5 := Lib.hid hb5; have Hk5 := Lib.hid hk5; clear hb5 hk5)
             have K5 := Lib.hid (((Kept.refl [] wr).alloc _).trans Hk5.out (fun i hi => .inr (by simp at hi; omega)))
             have hx5 := Hb5.out.cell)
          | (go_at_call 19
             refine (AP.out _ K5.out).mono ?_
             rintro e w6 ⟨rfl, hk6, G6, hd6, hg6⟩
             rw [VAp.out.1, HE.out]
             have D6 := Lib.hid hd6
             have X6 := Lib.hid ((Bx.out.kept K5.out (by simp)).kept hk6 (by have := HQ.out; simp; omega))
             have A6 := Lib.hid (RecArr.kept (RecArr.kept Ra.out K5.out (by simp)) hk6 (by
               intro k hk hm
               have h1 := (HGr.out k hk).2
               simp at hm
               omega))
             have K6 := Lib.hid ((KW.out.trans K5.out (by simp)).trans hk6 (by have := HQ.out; simp; omega))
             have hs6 : Hid (w2.heap.size ≤ w6.heap.size) := Lib.hid (Nat.le_trans hsz (Nat.le_trans K5.out.size hk6.size))
             have G6h : Hid (∀ g ∈ G6, q < g) := Lib.hid (fun g hg => by
               rcases hg6 g hg with hh | hh
               · exact Gv.out g hh
               · obtain ⟨_, _, _, _, _, _, _, _, _, hb, _⟩ := Dv.out
                 have := hb.lt
                 have := K5.out.size
                 omega)
             clear hd6 hk6 hg6))
        go_roundg (m - (j + 1))
        case measure => omega
        case rel => exact ⟨j + 1, applyS S r, applyV T r, G6, by omega, rfl, by go_num, Ok.out.apply r, VAp.out.2, by rw [Run.out, Hdr.out, run_cons HE.out], D6.out, G6h.out, A6.out, X6.out, K6.out, hs6.out⟩
      · obtain ⟨e0, he0⟩ : ∃ e0, errS S r = e0 := ⟨_, rfl⟩
        have hres := Lib.hid (show runS newS l = (S, e0) by rw [Run.out, Hdr.out, ← he0]; exact if_neg he)
        have HE : Hid (errS S r = e0) := Lib.hid he0
        have HN : Hid (e0 ≠ 0) := Lib.hid (by rw [← he0]; exact he)
        have i3 : (e0 == 0) = false := by rw [← he0]; simp [he]
        have i4 : (e0 != 0) = true := by rw [← he0]; simp [he]
        clear he he0
        go_wp2_with (first
          | (((with_reducible show wpList _ _ _ ({ dst := none, op := Op.store 43 (.tmp 6) (.tmp 16), type := _, pos := _, after := _, guard := _ } :: _) _ _); refine wpList_put (t := 43) rfl 43 (.tmp 6) (.tmp 16) rfl _ (by rfl) (by rfl) (by (repeat (first | (apply Blk.new'; simp; done) | apply Blk.alloc | apply Blk.drew))) (by rfl) (by kernel_rfl) (by simp [Value.oneCell']) ?_; intro w5 hb5 hk5; have Hb5 := Lib.hid hb5; have Hk5 := Lib.hid hk5; clear hb5 hk5)
             have K5 := Lib.hid (((Kept.refl [] wr).alloc _).trans Hk5.out (fun i hi => .inr (by simp at hi; omega)))
             have hx5 := Hb5.out.cell)
          | (go_at_call 19
             refine (AP.out _ K5.out).mono ?_
             rintro e w6 ⟨rfl, hk6, G6, hd6, hg6⟩
             rw [VAp.out.1, HE.out]
             have K6 := Lib.hid ((KW.out.trans K5.out (by simp)).trans hk6 (by have := HQ.out; simp; omega))
             clear hd6 hk6 hg6))
        go_ret2
        exact ⟨S, e0, (by rw [Hl.out]; exact hres.out), K6.out, .inl ⟨HN.out, rfl⟩⟩
    · obtain rfl : m = j := by omega
      have i1 : ¬ (m : Int) < (m : Int) := by omega
      have hres := Lib.hid (show runS newS l = (S, 0) by
        rw [Run.out, List.drop_of_length_le (by rw [L2.out.1]; exact Nat.le_refl _)]; rfl)
      obtain ⟨B1, n1, d1, B2, n2, d2, B3, n3, d3, hqb, hva, hqn⟩ := Dv.out
      have QB := Lib.hid hqb
      have VQ := Lib.hid hva
      have hqc := QB.out.cell
      have hql := QB.out.lt
      have hx := Bx.out.cell
      have VV := Lib.hid (H.out.go KW.out)
      clear hqb hva
      have KEEP := Lib.hid (fun (w' : World) (hkx : Kept [] wr w') => (show (∀ o, w'.cell? ⟨w.heap.size, o, none⟩ = (#[.int .i64 V.gen, .slice A1 m1 c1, .slice A2 m2 c2, .slice A3 m3 c3] : Array Value)[o]?) ∧ (∀ o, w'.cell? ⟨q, o, none⟩ = (#[.int .i64 T.gen, .slice B1 n1 d1, .slice B2 n2 d2, .slice B3 n3 d3] : Array Value)[o]?) from ⟨(Bx.out.kept hkx (by simp)).cell, (QB.out.kept hkx (by simp)).cell⟩))
      have KD := Lib.hid ((Kept.refl [] wr).drew)
      have VD := Lib.hid (VV.out.go KD.out)
      have QD := Lib.hid (VQ.out.go KD.out)
      go_wp2
      go_region_held3 (fun w' => (∀ o, w'.cell? ⟨w.heap.size, o, none⟩ = (#[.int .i64 V.gen, .slice A1 m1 c1, .slice A2 m2 c2, .slice A3 m3 c3] : Array Value)[o]?) ∧ (∀ o, w'.cell? ⟨q, o, none⟩ = (#[.int .i64 T.gen, .slice B1 n1 d1, .slice B2 n2 d2, .slice B3 n3 d3] : Array Value)[o]?))
        (first | with_reducible exact KEEP.out _ K8.out | with_reducible exact KEEP.out _ KD.out | with_reducible exact KEEP.out _ (Kept.refl _ _))
        ((go_at_call 17
          refine (rSameState_any _ T V QD.out VD.out).mono ?_
          rintro e w8 ⟨rfl, hk8⟩
          have K8 := Lib.hid (KD.out.trans hk8 (by simp))
          obtain ⟨b, hsv⟩ : ∃ b, sameV T V = b := ⟨_, rfl⟩
          rw [hsv]
          have HSV := Lib.hid hsv
          clear hk8 hsv))
      all_goals
        cases b
        · go_wp2
          go_ret2
          exact ⟨S, 0, (by rw [Hl.out]; exact hres.out), KW.out.trans K8.out (by simp), .inr ⟨rfl, T, Iv.out, .inr ⟨HSV.out, rfl⟩⟩⟩
        · go_wp2
          go_ret2
          exact ⟨S, 0, (by rw [Hl.out]; exact hres.out), KW.out.trans K8.out (by simp), .inr ⟨rfl, T, Iv.out, .inl ⟨HSV.out, q, rfl⟩⟩⟩
end
section
open Go.RowKit
set_option maxRecDepth 100000
theorem New.go {W w w' : World} {e : TypeId} {s n : Nat} {v : Value} {xs : List Value} (h : New W e s v n xs w) (hk : Kept [] w w') : New W e s v n xs w' :=
  ⟨h.1.kept hk (by simp), h.2.1.trans hk (by simp), h.2.2⟩
theorem New.app {W w w' : World} {v v' : Value} {n n' : Nat} {bs cs : List UInt8} (h : New W 5 1 v n (u8s bs) w) (ho : Own w' 5 1 v' n' (u8s bs ++ u8s cs)) (hk : Kept (rowOf v) w w')
    (hr : ∀ k ∈ rowOf v', k ∈ rowOf v ∨ w.heap.size ≤ k) : New W 5 1 v' n' (u8s (bs ++ cs)) w' := by
  refine ⟨by rw [show u8s (bs ++ cs) = u8s bs ++ u8s cs by simp [u8s]]; exact ho, h.2.1.trans hk (fun i hi => .inr (h.2.2 i hi)), fun k hk' => ?_⟩
  rcases hr k hk' with h1 | h1
  · exact h.2.2 k h1
  · have := h.2.1.size; omega
theorem New.len {W w : World} {v : Value} {n : Nat} {bs : List UInt8} (h : New W 5 1 v n (u8s bs) w) : bs.length = n := by
  have := h.1.1
  simpa [u8s] using this
theorem New.wide {W W' w : World} {e : TypeId} {s n : Nat} {v : Value} {xs : List Value} (h : New W' e s v n xs w) (hk : Kept [] W W') : New W e s v n xs w :=
  ⟨h.1, hk.trans h.2.1 (by simp), fun k hk' => by have := h.2.2 k hk'; have := hk.size; omega⟩
theorem Rd.holds {w : World} {A : Option Addr} {xs : List Value} (h : Rd w A xs) : ∀ b, A = some b → ∀ j u, xs[j]? = some u → w.cell? (b.add j) = some u := by
  intro b hb j u hu
  obtain ⟨g, o, h1, h2⟩ := h (by rintro rfl; simp at hu)
  rw [hb] at h1
  injection h1 with h1
  subst h1
  rw [Addr.add_lit]
  exact h2 j u hu
theorem New.of_row {w w' : World} {e : TypeId} {s n : Nat} {v : Value} {xs : List Value} (h : w'.ownsRow w.heap.size e s v n xs) (hk : w.grownBy w' none) : New w e s v n xs w' := by
  refine ⟨?_, (Kept.refl [] w).grown hk (fun k hk => by cases hk), fun k hk => (World.ownsRow.lt h k (mem_rowOf.1 hk)).1⟩
  rcases h.2 with h1 | ⟨g, cap, cur, h1, h2, h3⟩
  · exact ⟨h.1, .inl h1⟩
  · exact ⟨h.1, .inr ⟨g, cap, cur, h1, Nat.zero_le _, h3⟩⟩
theorem wpList_grow {P : Program} {w : World} {ops : Array Oper} {rest : List Oper} {o : Oper} {a : Act} {Q : Exit → Act → World → Prop} (hgd : o.guard = none) (s x : Operand) (t : TypeId)
    (ho : o.op = .call { callee := .builtin .append, args := #[s, x], argTypes := #[t, t] })
    {e : TypeId} {size bytes : Nat} (E : Elem P t e size bytes) {A : Option Addr} {n cap : Nat} {olds : List Value} (hs : a.eval s = .slice A n cap) (hA : A = none → n = 0 ∧ cap = 0) (hr0 : Rd w A olds) (hl0 : olds.length = n * size)
    {B : Option Addr} {m c : Nat} {news : List Value} (hx : a.eval x = .slice B m c) (hr : Rd w B news) (hl : news.length = m * size) (h1 : ∀ u ∈ news, u.oneCell' = true) (hm : 0 < m) (hfull : cap < n + m)
    (h63 : n + m ≤ maxLen) (hbytes : (n + m) * bytes ≤ 140737488355328)
    (h : ∀ v' w', New w e size v' (n + m) (olds ++ news) w' → wpList P ops Q rest (a.put o.dst v') w') : wpList P ops Q (o :: rest) a w := by
  obtain ⟨i, z, e1, e2, e3, e4, e5, e6, e7⟩ := E.ex
  have hne : news ≠ [] := by
    rintro rfl
    have : m * size = 0 := by simpa using hl.symm
    rcases Nat.mul_eq_zero.1 this with h | h <;> omega
  obtain ⟨g, q, rfl, hc⟩ := hr hne
  exact wpList_append_grows w hgd s x t ho e i z size bytes e1 e2 e3 e4 e5 e6 e7 A n cap olds hs hA hl0 hr0.holds ⟨g, q, none⟩ m c news hx hl (fun j u hu => by rw [Addr.add_lit]; exact hc j u hu) h1 hfull h63 hbytes (fun v' w' q1 q2 => h v' w' (New.of_row q1 q2))
set_option maxHeartbeats 1600000 in
theorem rPut_any (w : World) (G : List Nat) (A : Option Addr) (m c : Nat) (f : FrameD) (h : RdB w G (.slice A m c) f.body) :
    Calls Tryz.prog 14 #[.agg #[.int .i64 f.kind, .int .i64 f.ver, .slice A m c]] w fun e w' => ∃ v, e = .returned (.tuple #[v, .int .i64 (putE f)]) ∧ New w 5 1 v (putF f).length (u8s (putF f)) w' := by
  have hm := h.len
  have H := Lib.hid h
  have Hm := Lib.hid hm.1
  have hcm := hm.2.2.1
  have hmc := hm.2.1
  unfold maxLen at hcm
  clear h hm
  by_cases hbad : f.kind < 0 ∨ 255 < f.kind ∨ f.ver < 0 ∨ 255 < f.ver
  · have he : putE f = 1 := by simp [putE, hbad]
    have hf : putF f = [] := by simp [putF, he]
    rw [he, hf]
    clear he hf
    by_cases k0 : f.kind < 0
    · go_enter Tryz.func14, Tryz.ntmps14
      go_wp2
      go_ret2
      exact ⟨_, rfl, Own.nil _ _ _, (Kept.refl _ _).alloc _, by simp [rowOf, Value.ownBlock]⟩
    · by_cases k1 : 255 < f.kind
      · go_enter Tryz.func14, Tryz.ntmps14
        go_wp2
        go_ret2
        exact ⟨_, rfl, Own.nil _ _ _, (Kept.refl _ _).alloc _, by simp [rowOf, Value.ownBlock]⟩
      · by_cases k2 : f.ver < 0
        · go_enter Tryz.func14, Tryz.ntmps14
          go_wp2
          go_ret2
          exact ⟨_, rfl, Own.nil _ _ _, (Kept.refl _ _).alloc _, by simp [rowOf, Value.ownBlock]⟩
        · have k3 : 255 < f.ver := by omega
          clear hbad
          go_enter Tryz.func14, Tryz.ntmps14
          go_wp2
          go_ret2
          exact ⟨_, rfl, Own.nil _ _ _, (Kept.refl _ _).alloc _, by simp [rowOf, Value.ownBlock]⟩
  · have k0 : 0 ≤ f.kind := by omega
    have k1 : f.kind ≤ 255 := by omega
    have k2 : 0 ≤ f.ver := by omega
    have k3 : f.ver ≤ 255 := by omega
    by_cases hl : 4096 < m
    · have he : putE f = 4 := by rw [← Hm.out] at hl; simp [putE, hbad, hl]
      have hf : putF f = [] := by simp [putF, he]
      rw [he, hf]
      clear he hf hbad
      go_enter Tryz.func14, Tryz.ntmps14
      go_wp2
      go_ret2
      exact ⟨_, rfl, Own.nil _ _ _, (Kept.refl _ _).alloc _, by simp [rowOf, Value.ownBlock]⟩
    · have he : putE f = 0 := by rw [← Hm.out] at hl; simp [putE, hbad, hl]
      have hf : putF f = putB f := by simp [putF, he]
      rw [he, hf]
      have hlen := putB_len f
      rw [hlen, Hm.out]
      have Hpb : Hid (putB f = head8 f ++ beK (crc (head8 f)) 4 4 ++ beK (crc f.body) 4 4 ++ f.body) := rfl
      have Hh : Hid ([103, 111, 105, 116] ++ (beK (nat64 f.kind) 1 1 ++ beK (nat64 f.ver) 1 1) ++ beK (nat64 m) 2 2 = head8 f) := Lib.hid (by rw [← Hm.out]; unfold head8; simp)
      have Hkv : Hid (u8s [103, 111, 105, 116] ++ [.int .u8 f.kind, .int .u8 f.ver] = u8s [103, 111, 105, 116] ++ u8s (beK (nat64 f.kind) 1 1 ++ beK (nat64 f.ver) 1 1)) := Lib.hid <| by
        have h1 := be1 f.kind
        have h2 := be1 f.ver
        rw [Int.emod_eq_of_lt k0 (by omega)] at h1
        rw [Int.emod_eq_of_lt k2 (by omega)] at h2
        rw [show u8s (beK (nat64 f.kind) 1 1 ++ beK (nat64 f.ver) 1 1) = u8s (beK (nat64 f.kind) 1 1) ++ u8s (beK (nat64 f.ver) 1 1) by simp [u8s], h1, h2]
        rfl
      clear he hf hbad hlen
      have hb0 := Blk.new w 45 #[.int .i64 f.kind, .int .i64 f.ver, .slice A m c]
      have Hb0 := Lib.hid hb0
      clear hb0
      go_enter Tryz.func14, Tryz.ntmps14
      have hcv := Lib.run_convert_bytes_const (P := Tryz.prog) (w.alloc (.cells #[.int .i64 f.kind, .int .i64 f.ver, .slice A m c] 45)) 31 5 #[.int .u8 103, .int .u8 111, .int .u8 105, .int .u8 116] 4 4 Tryz.underlying31 Tryz.underlying5
      rw [World.size_alloc] at hcv
      have hl0 := RdB.litf (w.alloc (.cells #[.int .i64 f.kind, .int .i64 f.ver, .slice A m c] 45)) (4, 5) [103, 111, 105, 116] 4 rfl (by unfold maxLen; omega)
      rw [World.size_alloc] at hl0
      have Hl0 := Lib.hid hl0
      have hr2 := Rd.new ((w.alloc (.cells #[.int .i64 f.kind, .int .i64 f.ver, .slice A m c] 45)).alloc (.cells #[.int .u8 103, .int .u8 111, .int .u8 105, .int .u8 116] 5 (4, 5))) #[.int .u8 f.kind, .int .u8 f.ver] 5
      rw [World.size_alloc, World.size_alloc] at hr2
      have Hr2 := Lib.hid hr2
      clear hl0 hr2
      go_wp2_with (at_builtin
                   refine wpList_grow rfl (.tmp 28) (.tmp 35) 31 rfl elem_u8 (by rfl) (by simp) (Hl0.out.rd.alloc _) rfl (by rfl) Hr2.out rfl (by simp [Value.oneCell']) (by omega) (by omega) (by unfold maxLen; omega) (by omega) ?_
                   intro v5 w5 hn5
                   rw [Hkv.out, show u8s [103, 111, 105, 116] ++ u8s (beK (nat64 f.kind) 1 1 ++ beK (nat64 f.ver) 1 1) = u8s ([103, 111, 105, 116] ++ (beK (nat64 f.kind) 1 1 ++ beK (nat64 f.ver) 1 1)) by simp [u8s]] at hn5
                   have hn5 := hn5.wide (((Kept.refl [] (w.alloc (.cells #[.int .i64 f.kind, .int .i64 f.ver, .slice A m c] 45))).alloc _).alloc _)
                   obtain ⟨A5, n5, c5, rfl⟩ := hn5.1.form'
                   have Hn5 := Lib.hid hn5
                   have hb5 := Hb0.out.kept hn5.2.1 (by simp)
                   have hc5 := hb5.cell 2
                   simp only [List.getElem?_toArray, List.getElem?_cons_zero, List.getElem?_cons_succ] at hc5
                   clear hn5 hb5)
      refine (rU16_any _ (m : Int)).mono ?_
      rintro e w6 ⟨v6, rfl, hn6⟩
      obtain ⟨A6, m6, c6, rfl⟩ := hn6.1.form'
      have Hn56 := Lib.hid (Hn5.out.go hn6.2.1)
      have Hr6 := Lib.hid (RdB.of_own hn6.1)
      have hm6 : m6 = 2 := by rw [← Hr6.out.len.1]; simp [beK_len]
      clear hn6
      go_wp2_with (at_builtin
                   refine wpList_app _ rfl (.tmp 37) (.tmp 41) 31 rfl elem_u8 (by rfl) Hn56.out.1 (by rfl) Hr6.out.rd (by rw [u8s_len, Hr6.out.len.1]; omega) (u8s_one _) (by unfold maxLen; omega) (by omega) ?_
                   intro v7 w7 ho7 hk7 hr7
                   have hn7 := Hn56.out.app ho7 hk7 hr7
                   clear ho7 hk7 hr7
                   obtain ⟨A7, n7, c7, rfl⟩ := hn7.1.form'
                   have Hn7 := Lib.hid (Hh.out ▸ hn7)
                   clear hn7)
      have hh8 := head8_len f
      generalize head8 f = h8 at *
      have Hh8 := Lib.hid hh8
      clear hh8
      refine (rCrc_any _ _ _ _ _ _ (RdB.of_own Hn7.out.1)).mono ?_
      rintro e w8 ⟨rfl, rfl⟩
      go_wp2_with fail
      refine (rU32_any _ _ (crc h8) rfl (crc_lt _)).mono ?_
      rintro e w8 ⟨v8, rfl, hn8⟩
      obtain ⟨A8, m8, c8, rfl⟩ := hn8.1.form'
      have Hn78 := Lib.hid (Hn7.out.go hn8.2.1)
      have Hr8 := Lib.hid (RdB.of_own hn8.1)
      have hm8 : m8 = 4 := by rw [← Hr8.out.len.1]; simp [beK_len]
      clear hn8
      go_wp2_with (at_builtin
                   refine wpList_app _ rfl (.tmp 43) (.tmp 46) 31 rfl elem_u8 (by rfl) Hn78.out.1 (by rfl) Hr8.out.rd (by rw [u8s_len, Hr8.out.len.1]; omega) (u8s_one _) (by unfold maxLen; omega) (by omega) ?_
                   intro v9 w9 ho9 hk9 hr9
                   have hn9 := Hn78.out.app ho9 hk9 hr9
                   clear ho9 hk9 hr9
                   obtain ⟨A9, n9, c9, rfl⟩ := hn9.1.form'
                   have Hn9 := Lib.hid hn9
                   have hb9 := Hb0.out.kept hn9.2.1 (by simp)
                   have hc9 := hb9.cell 2
                   simp only [List.getElem?_toArray, List.getElem?_cons_zero, List.getElem?_cons_succ] at hc9
                   clear hb9
                   clear hn9)
      refine (rCrc_any _ _ _ _ _ _ (H.out.kept ((((Kept.refl [] w).alloc _).trans Hn9.out.2.1 (by simp))) (by simp))).mono ?_
      rintro e w10 ⟨rfl, rfl⟩
      go_wp2_with fail
      refine (rU32_any _ _ (crc f.body) rfl (crc_lt _)).mono ?_
      rintro e w10 ⟨v10, rfl, hn10⟩
      obtain ⟨A10, m10, c10, rfl⟩ := hn10.1.form'
      have Hn910 := Lib.hid (Hn9.out.go hn10.2.1)
      have Hr10 := Lib.hid (RdB.of_own hn10.1)
      have hm10 : m10 = 4 := by rw [← Hr10.out.len.1]; simp [beK_len]
      clear hn10
      go_wp2_with (first
                  | (at_builtin
                     refine wpList_app _ rfl (.tmp 48) (.tmp 52) 31 rfl elem_u8 (by rfl) Hn910.out.1 (by rfl) Hr10.out.rd (by rw [u8s_len, Hr10.out.len.1]; omega) (u8s_one _) (by unfold maxLen; omega) (by omega) ?_
                     intro v11 w11 ho11 hk11 hr11
                     have hn11 := Hn910.out.app ho11 hk11 hr11
                     clear ho11 hk11 hr11
                     obtain ⟨A11, n11, c11, rfl⟩ := hn11.1.form'
                     have Hn11 := Lib.hid hn11
                     have hb11 := Hb0.out.kept hn11.2.1 (by simp)
                     have hc11 := hb11.cell 2
                     simp only [List.getElem?_toArray, List.getElem?_cons_zero, List.getElem?_cons_succ] at hc11
                     clear hb11
                     clear hn11
                     have Hr12 := Lib.hid (H.out.kept ((((Kept.refl [] w).alloc (.cells #[.int .i64 f.kind, .int .i64 f.ver, .slice A m c] 45)).trans Hn11.out.2.1 (by simp))) (by simp)))
                  | (at_builtin
                     refine wpList_app _ rfl (.tmp 54) (.tmp 56) 31 rfl elem_u8 (by rfl) Hn11.out.1 (by rfl) Hr12.out.rd (by rw [u8s_len, Hr12.out.len.1]; omega) (u8s_one _) (by unfold maxLen; omega) (by omega) ?_
                     intro v13 w13 ho13 hk13 hr13
                     have hn13 := Hn11.out.app ho13 hk13 hr13
                     clear ho13 hk13 hr13
                     obtain ⟨A13, n13, c13, rfl⟩ := hn13.1.form'
                     have Hn13 := Lib.hid hn13
                     clear hn13))
      go_ret2
      refine ⟨_, rfl, ?_⟩
      rw [Hpb.out]
      exact (Hn13.out.wide ((Kept.refl [] w).alloc _)).cast (by omega) rfl
end
section
open Go.RowKit Go.ChangeShapes Go.WideShapes Go.Deep
set_option maxRecDepth 100000
theorem Blk.at5 {w : World} {g : Nat} {t : TypeId} {a b c d e : Value} (h : Blk w g t #[a, b, c, d, e]) : w.cell? ⟨g, 0, none⟩ = some a ∧ w.cell? ⟨g, 1, none⟩ = some b ∧ w.cell? ⟨g, 2, none⟩ = some c ∧ w.cell? ⟨g, 3, none⟩ = some d ∧ w.cell? ⟨g, 4, none⟩ = some e :=
  ⟨by simpa using h.cell 0, by simpa using h.cell 1, by simpa using h.cell 2, by simpa using h.cell 3, by simpa using h.cell 4⟩
set_option maxHeartbeats 3200000 in
theorem TupleBytes_any (w : World) (t : TupD) :
    Calls Tryz.prog 28 #[.agg #[.int .u32 (t.src.toNat : Nat), .int .u32 (t.dst.toNat : Nat), .int .i64 t.proto, .int .i64 t.sport, .int .i64 t.dport]] w fun e w' => ∃ v, e = .returned v ∧ New w 5 1 v 13 (u8s (tupB t)) w' := by
  have Bx := Lib.hid (show Blk (w.alloc (.cells #[.int .u32 (t.src.toNat : Nat), .int .u32 (t.dst.toNat : Nat), .int .i64 t.proto, .int .i64 t.sport, .int .i64 t.dport] 39)).drew w.heap.size 39 #[.int .u32 (t.src.toNat : Nat), .int .u32 (t.dst.toNat : Nat), .int .i64 t.proto, .int .i64 t.sport, .int .i64 t.dport] from by (repeat (first | (apply Blk.new'; simp; done) | apply Blk.alloc | apply Blk.drew)))
  have K0 := Lib.hid (show Kept [] w (w.alloc (.cells #[.int .u32 (t.src.toNat : Nat), .int .u32 (t.dst.toNat : Nat), .int .i64 t.proto, .int .i64 t.sport, .int .i64 t.dport] 39)).drew from by (repeat (first | exact Kept.refl _ _ | apply Kept.alloc | apply Kept.drew)))
  have U1 := Lib.hid (fun w => rU32_any w ((t.src.toNat : Nat) : Int) t.src.toNat rfl t.src.toNat_lt)
  have U2 := Lib.hid (fun w => rU32_any w ((t.dst.toNat : Nat) : Int) t.dst.toNat rfl t.dst.toNat_lt)
  go_enter Tryz.func28, Tryz.ntmps28
  go_wp2
  go_region_held3 (fun w' => w'.cell? ⟨w.heap.size, 0, none⟩ = some (.int .u32 (t.src.toNat : Nat)) ∧ w'.cell? ⟨w.heap.size, 1, none⟩ = some (.int .u32 (t.dst.toNat : Nat)))
    (first | exact ⟨Bx.out.at5.1, Bx.out.at5.2.1⟩ | exact ⟨hb3.at5.1, hb3.at5.2.1⟩ | exact ⟨hb2.at5.1, hb2.at5.2.1⟩ | exact ⟨hb1.at5.1, hb1.at5.2.1⟩)
    (first
      | (go_at_call 30
         with_reducible refine (U1.out _).mono ?_
         rintro e w1 ⟨v1, rfl, hn1⟩
         have hb1 := Bx.out.kept hn1.2.1 (by simp)
         have N1 := Lib.hid (hn1.wide K0.out)
         obtain ⟨A1, c1, rfl, -, -⟩ := hn1.1.form
         clear hn1)
      | (go_at_call 30
         with_reducible refine (U2.out _).mono ?_
         rintro e w2 ⟨v2, rfl, hn2⟩
         have hb2 := hb1.kept hn2.2.1 (by simp)
         have N12 := Lib.hid (N1.out.go hn2.2.1)
         have R2 := Lib.hid (RdB.of_own hn2.1)
         obtain ⟨A2, c2, rfl, -, -⟩ := hn2.1.form
         clear hn2)
      | (refine step_app _ rfl (.tmp 6) (.tmp 9) 31 rfl elem_u8 (by rfl) N12.out.1 (by rfl) R2.out.rd (by simp [u8s, beK_len]) (u8s_one _) (by unfold maxLen; omega) (by omega) ?_
         intro v3 w3 ho3 hk3 hr3
         have hb3 := hb2.kept hk3 (N12.out.1.ne_blk hb2 (by decide))
         have N3 := Lib.hid ((N12.out.app ho3 hk3 hr3).cast (show 4 + 4 = 8 from rfl) rfl)
         obtain ⟨A3, c3, rfl, -, -⟩ := ho3.form
         clear ho3 hk3 hr3))
  have B3 := Lib.hid hb3
  have hc3 := hb3.cell
  clear hb1 hb2 hb3
  have U3 := Lib.hid (fun w => rU16_any w t.sport)
  have U4 := Lib.hid (fun w => rU16_any w t.dport)
  go_wp2_with (at_builtin
               refine wpList_app _ rfl (.tmp 11) (.tmp 15) 31 rfl elem_u8 (by rfl) (N3.out.go ((Kept.refl [] _).alloc _)).1 (by rfl) (Rd.laid _ [.int .u8 (t.proto % 256)] _) rfl (by simp [Value.oneCell']) (by unfold maxLen; omega) (by omega) ?_
               intro v5 w5 ho5 hk5 hr5
               rw [← be1 t.proto] at ho5
               have hn5 := ((N3.out.go ((Kept.refl [] w3).alloc (.cells #[.int .u8 (t.proto % 256)] 5))).app ho5 hk5 hr5)
               have hb5 := (B3.out.alloc (.cells #[.int .u8 (t.proto % 256)] 5)).kept hk5 ((N3.out.go ((Kept.refl [] w3).alloc (.cells #[.int .u8 (t.proto % 256)] 5))).1.ne_blk (B3.out.alloc _) (by decide))
               have N5 := Lib.hid (hn5.cast (show 8 + 1 = 9 from rfl) rfl)
               have B5 := Lib.hid hb5
               have hc5 := hb5.cell
               obtain ⟨A5, c5, rfl, -, -⟩ := ho5.form
               clear ho5 hk5 hr5 hn5 hb5 hc3)
  clear hc5
  go_region_held3 (fun w' => w'.cell? ⟨w.heap.size, 3, none⟩ = some (.int .i64 t.sport) ∧ w'.cell? ⟨w.heap.size, 4, none⟩ = some (.int .i64 t.dport))
    (first | exact ⟨B5.out.drew.at5.2.2.2.1, B5.out.drew.at5.2.2.2.2⟩ | exact ⟨hb9.at5.2.2.2.1, hb9.at5.2.2.2.2⟩ | exact ⟨hb8.at5.2.2.2.1, hb8.at5.2.2.2.2⟩ | exact ⟨hb7.at5.2.2.2.1, hb7.at5.2.2.2.2⟩ | exact ⟨hb6.at5.2.2.2.1, hb6.at5.2.2.2.2⟩)
    (first
      | (go_at_call 29
         with_reducible refine (U3.out _).mono ?_
         rintro e w6 ⟨v6, rfl, hn6⟩
         have hb6 := B5.out.drew.kept hn6.2.1 (by simp)
         have N6 := Lib.hid ((N5.out.go ((Kept.refl [] w5).drew)).go hn6.2.1)
         have R6 := Lib.hid (RdB.of_own hn6.1)
         obtain ⟨A6, c6, rfl, -, -⟩ := hn6.1.form
         clear hn6)
      | (refine step_app _ rfl (.tmp 17) (.tmp 20) 31 rfl elem_u8 (by rfl) N6.out.1 (by rfl) R6.out.rd (by simp [u8s, beK_len]) (u8s_one _) (by unfold maxLen; omega) (by omega) ?_
         intro v7 w7 ho7 hk7 hr7
         have hb7 := hb6.kept hk7 (N6.out.1.ne_blk hb6 (by decide))
         have N7 := Lib.hid ((N6.out.app ho7 hk7 hr7).cast (show 9 + 2 = 11 from rfl) rfl)
         obtain ⟨A7, c7, rfl, -, -⟩ := ho7.form
         clear ho7 hk7 hr7)
      | (go_at_call 29
         with_reducible refine (U4.out _).mono ?_
         rintro e w8 ⟨v8, rfl, hn8⟩
         have hb8 := hb7.kept hn8.2.1 (by simp)
         have N8 := Lib.hid (N7.out.go hn8.2.1)
         have R8 := Lib.hid (RdB.of_own hn8.1)
         obtain ⟨A8, c8, rfl, -, -⟩ := hn8.1.form
         clear hn8)
      | (refine step_app _ rfl (.tmp 21) (.tmp 24) 31 rfl elem_u8 (by rfl) N8.out.1 (by rfl) R8.out.rd (by simp [u8s, beK_len]) (u8s_one _) (by unfold maxLen; omega) (by omega) ?_
         intro v9 w9 ho9 hk9 hr9
         have hb9 := hb8.kept hk9 (N8.out.1.ne_blk hb8 (by decide))
         have N9 := Lib.hid ((N8.out.app ho9 hk9 hr9).cast (show 11 + 2 = 13 from rfl) rfl)
         obtain ⟨A9, c9, rfl, -, -⟩ := ho9.form
         clear ho9 hk9 hr9))
  clear hb6 hb7 hb8 hb9
  go_wp2
  go_ret
  exact ⟨_, rfl, by have := N9.out; simpa [tupB, u8B, u16B] using this⟩
end
section
open Go.RowKit Go.ChangeShapes Go.WideShapes Go.Deep
set_option maxRecDepth 100000
def NB (W w : World) (v : Value) (bs : List UInt8) : Prop := New W 5 1 v bs.length (u8s bs) w
section
variable {W W' w w' : World} {v : Value} {bs cs : List UInt8}
theorem NB.of {n : Nat} (h : New W 5 1 v n (u8s bs) w) : NB W w v bs := by
  have := h.len; subst this; exact h
theorem NB.form (h : NB W w v bs) : ∃ A m c, v = .slice A m c := Own.form' h.1
theorem NB.kept (h : NB W w v bs) : Kept [] W w := h.2.1
theorem NB.go (h : NB W w v bs) (hk : Kept [] w w') : NB W w' v bs := New.go h hk
theorem NB.wide (h : NB W' w v bs) (hk : Kept [] W W') : NB W w v bs := New.wide h hk
theorem NB.nil (hk : Kept [] W w) : NB W w (.slice none 0 0) [] := ⟨Own.nil _ _ _, hk, by simp [rowOf, Value.ownBlock]⟩
theorem NB.rd (h : NB W w v bs) : RdB w (rowOf v) v bs := RdB.of_own h.1
theorem NB.cast (h : NB W w v bs) (e : bs = cs) : NB W w v cs := e ▸ h
theorem NB.off (h : NB W w v bs) (hk : Kept (rowOf v) w w') : Apart w w' := fun g t cs h1 h2 hg => hg.kept hk (fun hm => h.1.ne_blk hg (fun e => h2 e.symm) hm)
theorem NB.other {S : List Nat} (h : NB W w v bs) (hk : Kept S w w') (h1 : ∀ k ∈ rowOf v, k ∉ S) (h2 : ∀ k ∈ S, W.heap.size ≤ k) : NB W w' v bs := ⟨h.1.kept hk h1, h.2.1.trans hk (fun i hi => .inr (h2 i hi)), h.2.2⟩
theorem NB.src (h : NB W w v bs) : ∃ A m c, v = .slice A m c ∧ Rd w A (u8s bs) ∧ (u8s bs).length = m * 1 ∧ m = bs.length := by
  obtain ⟨A, c, rfl, h1, h2⟩ := h.1.form
  have h3 := (h.rd).rd
  exact ⟨A, _, c, rfl, h3, by simp [u8s], rfl⟩
theorem NB.app {v' : Value} {n' : Nat} {cs : List UInt8} (h : NB W w v bs) (ho : Own w' 5 1 v' n' (u8s bs ++ u8s cs)) (hk : Kept (rowOf v) w w') (hr : ∀ k ∈ rowOf v', k ∈ rowOf v ∨ w.heap.size ≤ k) : NB W w' v' (bs ++ cs) :=
  NB.of (New.app h ho hk hr)
end
theorem wpList_cat {ops : Array Oper} {rest : List Oper} {o : Oper} {a : Act} {Q : Exit → Act → World → Prop} {w : World} (hgd : o.guard = none) (s x : Operand)
    (ho : o.op = .call { callee := .builtin .append, args := #[s, x], argTypes := #[31, 31] }) {W W' : World} {v u : Value} {bs cs : List UInt8}
    (hs : a.eval s = v) (hN : NB W w v bs) (hx : a.eval x = u) (hR : NB W' w u cs) (hl : bs.length + cs.length ≤ 1000000000)
    (h : ∀ A m c w', NB W w' (.slice A m c) (bs ++ cs) → Apart w w' → w.heap.size ≤ w'.heap.size → wpList Tryz.prog ops Q rest (a.put o.dst (.slice A m c)) w') : wpList Tryz.prog ops Q (o :: rest) a w := by
  obtain ⟨B, m, d, rfl, r1, r2, r3⟩ := hR.src
  refine wpList_app w hgd s x 31 ho elem_u8 hs hN.1 hx r1 r2 (u8s_one _) (by unfold maxLen; omega) (by omega) (fun v' w' h1 h2 h3 => ?_)
  have hn := hN.app h1 h2 h3
  obtain ⟨A, m', c, rfl⟩ := hn.form
  exact h A m' c w' hn (hN.off h2) h2.size
theorem step_cat {ops : Array Oper} {o : Oper} {a : Act} {K : Act → World → Prop} {Q : Exit → Act → World → Prop} {E0 : Prop} {w : World} (hgd : o.guard = none) (s x : Operand)
    (ho : o.op = .call { callee := .builtin .append, args := #[s, x], argTypes := #[31, 31] }) {W W' : World} {v u : Value} {bs cs : List UInt8}
    (hs : a.eval s = v) (hN : NB W w v bs) (hx : a.eval x = u) (hR : NB W' w u cs) (hl : bs.length + cs.length ≤ 1000000000)
    (h : ∀ A m c w', NB W w' (.slice A m c) (bs ++ cs) → Apart w w' → w.heap.size ≤ w'.heap.size → K (a.put o.dst (.slice A m c)) w') : if Region.wanted o (yielded ops a.tmps) = true then Oper.wp Tryz.prog o a w K Q else E0 := by
  obtain ⟨B, m, d, rfl, r1, r2, r3⟩ := hR.src
  refine step_app w hgd s x 31 ho elem_u8 hs hN.1 hx r1 r2 (u8s_one _) (by unfold maxLen; omega) (by omega) (fun v' w' h1 h2 h3 => ?_)
  have hn := hN.app h1 h2 h3
  obtain ⟨A, m', c, rfl⟩ := hn.form
  exact h A m' c w' hn (hN.off h2) h2.size
theorem u8s_one1 (n : Int) : u8s (u8B n) = [.int .u8 (n % 256)] := be1 n
theorem wpList_cat1 {ops : Array Oper} {rest : List Oper} {o : Oper} {a : Act} {Q : Exit → Act → World → Prop} {w0 : World} {n : Int} (hgd : o.guard = none) (s x : Operand)
    (ho : o.op = .call { callee := .builtin .append, args := #[s, x], argTypes := #[31, 31] }) {W : World} {v : Value} {bs : List UInt8} {g : Nat} (hg : g = w0.heap.size)
    (hs : a.eval s = v) (hN : NB W w0 v bs) (hx : a.eval x = .slice (some ⟨g, 0, none⟩) 1 1) (hl : bs.length ≤ 1000000000)
    (h : ∀ A m c w', NB W w' (.slice A m c) (bs ++ u8B n) → Apart w0 w' → w0.heap.size ≤ w'.heap.size → wpList Tryz.prog ops Q rest (a.put o.dst (.slice A m c)) w') : wpList Tryz.prog ops Q (o :: rest) a (w0.alloc (.cells #[.int .u8 (n % 256)] 5)) := by
  subst hg
  have ha := hN.go ((Kept.refl [] w0).alloc (.cells #[.int .u8 (n % 256)] 5))
  refine wpList_app _ hgd s x 31 ho elem_u8 hs ha.1 hx (Rd.laid w0 [.int .u8 (n % 256)] _) rfl (by simp [Value.oneCell']) (by unfold maxLen; omega) (by omega) (fun v' w' h1 h2 h3 => ?_)
  rw [← u8s_one1] at h1
  have hn := ha.app h1 h2 h3
  obtain ⟨A, m', c, rfl⟩ := hn.form
  exact h A m' c w' hn ((Apart.of_kept ((Kept.refl [] w0).alloc _)).trans (ha.off h2)) (Nat.le_trans (by simp) h2.size)
theorem step_cat1 {ops : Array Oper} {o : Oper} {a : Act} {K : Act → World → Prop} {Q : Exit → Act → World → Prop} {E0 : Prop} {w0 : World} {n : Int} (hgd : o.guard = none) (s x : Operand)
    (ho : o.op = .call { callee := .builtin .append, args := #[s, x], argTypes := #[31, 31] }) {W : World} {v : Value} {bs : List UInt8} {g : Nat} (hg : g = w0.heap.size)
    (hs : a.eval s = v) (hN : NB W w0 v bs) (hx : a.eval x = .slice (some ⟨g, 0, none⟩) 1 1) (hl : bs.length ≤ 1000000000)
    (h : ∀ A m c w', NB W w' (.slice A m c) (bs ++ u8B n) → Apart w0 w' → w0.heap.size ≤ w'.heap.size → K (a.put o.dst (.slice A m c)) w') : if Region.wanted o (yielded ops a.tmps) = true then Oper.wp Tryz.prog o a (w0.alloc (.cells #[.int .u8 (n % 256)] 5)) K Q else E0 := by
  subst hg
  have ha := hN.go ((Kept.refl [] w0).alloc (.cells #[.int .u8 (n % 256)] 5))
  refine step_app _ hgd s x 31 ho elem_u8 hs ha.1 hx (Rd.laid w0 [.int .u8 (n % 256)] _) rfl (by simp [Value.oneCell']) (by unfold maxLen; omega) (by omega) (fun v' w' h1 h2 h3 => ?_)
  rw [← u8s_one1] at h1
  have hn := ha.app h1 h2 h3
  obtain ⟨A, m', c, rfl⟩ := hn.form
  exact h A m' c w' hn ((Apart.of_kept ((Kept.refl [] w0).alloc _)).trans (ha.off h2)) (Nat.le_trans (by simp) h2.size)
theorem step_catB {ops : Array Oper} {o : Oper} {a : Act} {K : Act → World → Prop} {Q : Exit → Act → World → Prop} {E0 : Prop} {w : World} {n : Int} (hgd : o.guard = none) (s x : Operand)
    (ho : o.op = .call { callee := .builtin .append, args := #[s, x], argTypes := #[31, 31] }) {W : World} {v : Value} {bs : List UInt8} {g : Nat} (hb : Blk w g 5 #[.int .u8 (n % 256)])
    (hs : a.eval s = v) (hN : NB W w v bs) (hx : a.eval x = .slice (some ⟨g, 0, none⟩) 1 1) (hl : bs.length ≤ 1000000000)
    (h : ∀ A m c w', NB W w' (.slice A m c) (bs ++ u8B n) → Apart w w' → w.heap.size ≤ w'.heap.size → K (a.put o.dst (.slice A m c)) w') : if Region.wanted o (yielded ops a.tmps) = true then Oper.wp Tryz.prog o a w K Q else E0 := by
  refine step_app _ hgd s x 31 ho elem_u8 hs hN.1 hx (news := [.int .u8 (n % 256)]) (fun _ => ⟨g, 0, rfl, fun j u hu => ?_⟩) rfl (by simp [Value.oneCell']) (by unfold maxLen; omega) (by omega) (fun v' w' h1 h2 h3 => ?_)
  · rw [Nat.zero_add, hb.cell j]; simpa using hu
  rw [← u8s_one1] at h1
  have hn := hN.app h1 h2 h3
  obtain ⟨A, m', c, rfl⟩ := hn.form
  exact h A m' c w' hn (hN.off h2) h2.size
section
def Gives (w : World) (bs : List UInt8) (e : Ending) (w' : World) : Prop := ∃ A m c, e = .returned (.slice A m c) ∧ NB w w' (.slice A m c) bs
theorem Gives.of {w : World} {n : Nat} {bs : List UInt8} {e : Ending} {w' : World} (h : ∃ v, e = .returned v ∧ New w 5 1 v n (u8s bs) w') : Gives w bs e w' := by
  obtain ⟨v, rfl, h⟩ := h
  have hn := NB.of h
  obtain ⟨A, m, c, rfl⟩ := hn.form
  exact ⟨A, m, c, rfl, hn⟩
theorem nU16 (w : World) (n : Int) : Calls Tryz.prog 29 #[.int .i64 n] w (Gives w (u16B n)) := (rU16_any w n).mono fun _ _ h => Gives.of h
theorem nU32 (w : World) (x : UInt32) : Calls Tryz.prog 30 #[.int .u32 (x.toNat : Nat)] w (Gives w (beK x.toNat 4 4)) := (rU32_any w _ _ rfl x.toNat_lt).mono fun _ _ h => Gives.of h
theorem nU32w (w : World) (n x : Int) (h : x = (u32n n : Int)) : Calls Tryz.prog 30 #[.int .u32 x] w (Gives w (u32B n)) := (rU32_any w _ _ h (u32n_lt _)).mono fun _ _ h => Gives.of h
theorem nI64 (w : World) (n : Int) : Calls Tryz.prog 31 #[.int .i64 n] w (Gives w (i64B n)) := (rI64_any w n).mono fun _ _ h => Gives.of h
theorem nTB (w : World) (t : TupD) : Calls Tryz.prog 28 #[.agg #[.int .u32 (t.src.toNat : Nat), .int .u32 (t.dst.toNat : Nat), .int .i64 t.proto, .int .i64 t.sport, .int .i64 t.dport]] w (Gives w (tupB t)) := (TupleBytes_any w t).mono fun _ _ h => Gives.of h
end
end
end Go.Proofs.YtkacghjglicjiaaGreat
