
/-
  StateOf: the walk, the law's arguments.
-/
import Derived.Test.YtdabbkkjmmbigaaGreatSvR
import Derived.Test.YtdabbkkjmmbigaaGreatStW
import Derived.Deep.RegionWith
namespace Go.Proofs.YtdabbkkjmmbigaaGreat
open Go.RowKit Go.ChangeShapes Go.WideShapes Go.ChangeAt Go.Deep Go.MapKept
set_option linter.unusedVariables false
section
variable {H : Type} {enc : TypeId × Value → H} {w : World}
set_option maxRecDepth 100000 in
theorem open_drain {fuel : Nat} {cs : List Value} {x : DataW H × List MemPlace} (h : DataW.trod enc Tryz.prog w 0 (fun _ => true) true fuel 58 cs = some x) :
    ∃ b : Int × Int, DrDec w (old w) cs b ∧ 0 ≤ Rows.uptoBulk x.1 := by
  obtain ⟨xs, n, _, hx, hlen, hxl, hf⟩ := DataW.trod_struct Tryz.underlying58 h
  have hl3 : cs.length = 2 := hlen.trans (by kernel_rfl)
  match cs, hl3 with
  | [c0, c1], _ =>
    match xs, hxl with
    | [x0, x1], _ =>
      have f0 := hf 0 _ rfl
      have f1 := hf 1 _ rfl
      have k3 : Tryz.prog.cellsOf 3 = 1 := by kernel_rfl
      have k2 : Tryz.prog.cellsOf 2 = 1 := by kernel_rfl
      simp [k3, k2] at f0 f1
      obtain ⟨a, e0, _, _⟩ := DataW.trod_int Tryz.underlying3 f0
      obtain ⟨b, e1, _, _⟩ := DataW.trod_int Tryz.underlying2 f1
      injection e0 with e0; injection e1 with e1
      subst e0 e1
      exact ⟨(a, b), rfl, Nat.zero_le _⟩
set_option maxRecDepth 100000 in
theorem open_flow1 {fuel : Nat} {cs : List Value} {x : DataW H × List MemPlace} (h : DataW.trod enc Tryz.prog w 0 (fun _ => true) true fuel 43 cs = some x) :
    ∃ f : FlD, FlDec w (old w) cs f ∧ 0 ≤ Rows.uptoBulk x.1 := by
  obtain ⟨r, rfl⟩ := open_flow h
  exact ⟨flowR r, rfl, Nat.zero_le _⟩
set_option maxRecDepth 100000 in
theorem open_drains {fuel : Nat} {cs : List Value} {x : DataW H × List MemPlace} (h : DataW.trod enc Tryz.prog w 0 (fun _ => true) true fuel 23 cs = some x) :
    ∃ A m c l, cs = [.slice A m c] ∧ DrArr w (old w) (.slice A m c) l := by
  obtain ⟨A, m, c, E, D, e1, h2, h3, h4, h5, h6, h7⟩ := open_slice_at (n := 2) Tryz.underlying23 (by kernel_rfl) (by omega) h
  have : Inhabited (Int × Int) := ⟨default⟩
  obtain ⟨l, hl, hd, hs⟩ := list_of_dec (α := Int × Int) (m := m) (E := E) (D := D) (Dec := fun cs a => DrDec w (old w) cs a) (bk := fun _ => 0) (fun i hi => by
    obtain ⟨_, fu, ps, ht⟩ := h6 i hi
    exact open_drain ht)
  refine ⟨A, m, c, l, e1, A, m, c, rfl, hl, h2, h3, h4, fun hne => ?_⟩
  obtain ⟨g, o, e2, e3, e4⟩ := h5 (by
    rcases Nat.eq_zero_or_pos m with h0 | h0
    · subst h0; exact absurd (List.eq_nil_of_length_eq_zero hl) hne
    · exact h0)
  refine ⟨g, o, e2, List.mem_range.2 e3, e3, fun i a hi => ?_⟩
  have hlt : i < m := by have := (List.getElem?_eq_some_iff.1 hi).1; omega
  exact ⟨E i, (h6 i hlt).1, hd i a hi, fun j hj => e4 i j hlt hj⟩
set_option maxRecDepth 100000 in
theorem open_flows {fuel : Nat} {cs : List Value} {x : DataW H × List MemPlace} (h : DataW.trod enc Tryz.prog w 0 (fun _ => true) true fuel 24 cs = some x) :
    ∃ A m c l, cs = [.slice A m c] ∧ FlArr w (old w) (.slice A m c) l := by
  obtain ⟨A, m, c, E, D, e1, h2, h3, h4, h5, h6, h7⟩ := open_slice_at (n := 8) Tryz.underlying24 (by kernel_rfl) (by omega) h
  have : Inhabited (FlD) := ⟨default⟩
  obtain ⟨l, hl, hd, hs⟩ := list_of_dec (α := FlD) (m := m) (E := E) (D := D) (Dec := fun cs a => FlDec w (old w) cs a) (bk := fun _ => 0) (fun i hi => by
    obtain ⟨_, fu, ps, ht⟩ := h6 i hi
    exact open_flow1 ht)
  refine ⟨A, m, c, l, e1, A, m, c, rfl, hl, h2, h3, h4, fun hne => ?_⟩
  obtain ⟨g, o, e2, e3, e4⟩ := h5 (by
    rcases Nat.eq_zero_or_pos m with h0 | h0
    · subst h0; exact absurd (List.eq_nil_of_length_eq_zero hl) hne
    · exact h0)
  refine ⟨g, o, e2, List.mem_range.2 e3, e3, fun i a hi => ?_⟩
  have hlt : i < m := by have := (List.getElem?_eq_some_iff.1 hi).1; omega
  exact ⟨E i, (h6 i hlt).1, hd i a hi, fun j hj => e4 i j hlt hj⟩
set_option maxRecDepth 100000 in
theorem open_state {v : Value} {d : DataW H} {p : List MemPlace} {base : Nat} (hv : Value.okWide Tryz.prog w .any base 26 v) (h : DataW.Trod enc Tryz.prog w 0 (fun _ => true) true 26 v d p) :
    ∃ (V : VwD) (A1 : Option Addr) (m1 c1 : Nat) (A2 : Option Addr) (m2 c2 : Nat) (A3 : Option Addr) (m3 c3 : Nat), v = .agg #[.int .i64 V.gen, .slice A1 m1 c1, .slice A2 m2 c2, .slice A3 m3 c3] ∧ VA w (old w) A1 m1 c1 A2 m2 c2 A3 m3 c3 V := by
  obtain ⟨cs, rfl, _⟩ := okWide_struct Tryz.underlying26 hv
  obtain ⟨fuel, hf⟩ := h
  obtain ⟨xs, n, _, hx, hlen, hxl, hf⟩ := DataW.trod_struct Tryz.underlying26 hf
  have hl3 : (Value.agg cs).cells.toList.length = 4 := hlen.trans (by kernel_rfl)
  have hcs : (Value.agg cs).cells.toList = cs.toList := by simp [Value.cells]
  rw [hcs] at hl3 hf
  rw [← Array.toArray_toList (xs := cs)]
  generalize cs.toList = cl at *
  match cl, hl3 with
  | [e0, e1, e2, e3], _ =>
    match xs, hxl with
    | [x0, x1, x2, x3], _ =>
      have f0 := hf 0 _ rfl
      have f1 := hf 1 _ rfl
      have f2 := hf 2 _ rfl
      have f3 := hf 3 _ rfl
      have k3 : Tryz.prog.cellsOf 3 = 1 := by kernel_rfl
      have k4 : Tryz.prog.cellsOf 22 = 1 := by kernel_rfl
      have k5 : Tryz.prog.cellsOf 23 = 1 := by kernel_rfl
      have k6 : Tryz.prog.cellsOf 24 = 1 := by kernel_rfl
      simp [k3, k4, k5, k6] at f0 f1 f2 f3
      obtain ⟨a0, g0, _, _⟩ := DataW.trod_int Tryz.underlying3 f0
      obtain ⟨A1, m1, c1, l1, g1, hl1⟩ := open_backs f1
      obtain ⟨A2, m2, c2, l2, g2, hl2⟩ := open_drains f2
      obtain ⟨A3, m3, c3, l3, g3, hl3⟩ := open_flows f3
      simp only [List.cons.injEq, and_true] at g0 g1 g2 g3
      subst g0 g1 g2 g3
      exact ⟨⟨a0, l1, l2, l3⟩, A1, m1, c1, A2, m2, c2, A3, m3, c3, rfl, hl1, hl2, hl3, fun k hk => List.mem_range.1 hk⟩
end
theorem of_bad {w w' : World} {V : VwD} {e : Ending} (h : ∃ S e0, runS newS (recsV V) = (S, e0) ∧ Kept [] w w' ∧ ((e0 ≠ 0 ∧ e = .returned (.tuple #[.pointer none, .int .i64 e0])) ∨ (e0 = 0 ∧ ∃ V', IsView S V' ∧ ((sameV V' V = true ∧ ∃ q, e = .returned (.tuple #[.pointer (some ⟨q, 0, none⟩), .int .i64 0]) ∧ StB w w' q S) ∨ (sameV V' V = false ∧ e = .returned (.tuple #[.pointer none, .int .i64 1])))))) {S0 : StD} {e0 : Int} (hr : runS newS (recsV V) = (S0, e0)) (hb : ¬ (e0 = 0 ∧ ∃ V', IsView S0 V' ∧ sameV V' V = true)) :
    e = .returned (.tuple #[.pointer none, .int .i64 (if e0 = 0 then 1 else e0)]) ∧ Kept [] w w' := by
  obtain ⟨S, e1, h1, h2, h3⟩ := h
  rw [hr] at h1
  injection h1 with h1 h4
  subst h1 h4
  rcases h3 with ⟨h5, h6⟩ | ⟨h5, V', h6, ⟨h7, h8⟩ | ⟨h7, h8⟩⟩
  · exact ⟨by rw [if_neg h5]; exact h6, h2⟩
  · exact absurd ⟨h5, V', h6, h7⟩ hb
  · exact ⟨by rw [if_pos h5]; exact h8, h2⟩
theorem of_good {w w' : World} {V : VwD} {e : Ending} (h : ∃ S e0, runS newS (recsV V) = (S, e0) ∧ Kept [] w w' ∧ ((e0 ≠ 0 ∧ e = .returned (.tuple #[.pointer none, .int .i64 e0])) ∨ (e0 = 0 ∧ ∃ V', IsView S V' ∧ ((sameV V' V = true ∧ ∃ q, e = .returned (.tuple #[.pointer (some ⟨q, 0, none⟩), .int .i64 0]) ∧ StB w w' q S) ∨ (sameV V' V = false ∧ e = .returned (.tuple #[.pointer none, .int .i64 1])))))) {S0 : StD} {e0 : Int} (hr : runS newS (recsV V) = (S0, e0)) {V0 : VwD} (hb : e0 = 0 ∧ IsView S0 V0 ∧ sameV V0 V = true) :
    ∃ q, e = .returned (.tuple #[.pointer (some ⟨q, 0, none⟩), .int .i64 0]) ∧ StB w w' q S0 := by
  obtain ⟨S, e1, h1, h2, h3⟩ := h
  rw [hr] at h1
  injection h1 with h1 h4
  subst h1 h4
  have ok : OkS S0 := by have := run_ok OkS.new (recsV V); rw [hr] at this; exact this
  rcases h3 with ⟨h5, h6⟩ | ⟨h5, V', h6, ⟨h7, q, h8⟩ | ⟨h7, h8⟩⟩
  · exact absurd hb.1 h5
  · exact ⟨q, h8⟩
  · obtain rfl := h6.one ok hb.2.1
    rw [hb.2.2] at h7
    cases h7
theorem rof_bad {w w' : World} {V : VwD} {e : Ending} (h : ∃ S e0, runS newS (recsV V) = (S, e0) ∧ Kept [] w w' ∧ ((e0 ≠ 0 ∧ e = .returned (.tuple #[.pointer none, .int .i64 e0])) ∨ (e0 = 0 ∧ ∃ V', IsView S V' ∧ ((sameV V' V = true ∧ ∃ q, e = .returned (.tuple #[.pointer (some ⟨q, 0, none⟩), .int .i64 0])) ∨ (sameV V' V = false ∧ e = .returned (.tuple #[.pointer none, .int .i64 1])))))) {S0 : StD} {e0 : Int} (hr : runS newS (recsV V) = (S0, e0)) (hb : ¬ (e0 = 0 ∧ ∃ V', IsView S0 V' ∧ sameV V' V = true)) :
    e = .returned (.tuple #[.pointer none, .int .i64 (if e0 = 0 then 1 else e0)]) ∧ Kept [] w w' := by
  obtain ⟨S, e1, h1, h2, h3⟩ := h
  rw [hr] at h1
  injection h1 with h1 h4
  subst h1 h4
  rcases h3 with ⟨h5, h6⟩ | ⟨h5, V', h6, ⟨h7, h8⟩ | ⟨h7, h8⟩⟩
  · exact ⟨by rw [if_neg h5]; exact h6, h2⟩
  · exact absurd ⟨h5, V', h6, h7⟩ hb
  · exact ⟨by rw [if_pos h5]; exact h8, h2⟩
theorem rof_good {w w' : World} {V : VwD} {e : Ending} (h : ∃ S e0, runS newS (recsV V) = (S, e0) ∧ Kept [] w w' ∧ ((e0 ≠ 0 ∧ e = .returned (.tuple #[.pointer none, .int .i64 e0])) ∨ (e0 = 0 ∧ ∃ V', IsView S V' ∧ ((sameV V' V = true ∧ ∃ q, e = .returned (.tuple #[.pointer (some ⟨q, 0, none⟩), .int .i64 0])) ∨ (sameV V' V = false ∧ e = .returned (.tuple #[.pointer none, .int .i64 1])))))) {S0 : StD} {e0 : Int} (hr : runS newS (recsV V) = (S0, e0)) {V0 : VwD} (hb : e0 = 0 ∧ IsView S0 V0 ∧ sameV V0 V = true) :
    ∃ q, e = .returned (.tuple #[.pointer (some ⟨q, 0, none⟩), .int .i64 0]) ∧ Kept [] w w' := by
  obtain ⟨S, e1, h1, h2, h3⟩ := h
  rw [hr] at h1
  injection h1 with h1 h4
  subst h1 h4
  have ok : OkS S0 := by have := run_ok OkS.new (recsV V); rw [hr] at this; exact this
  rcases h3 with ⟨h5, h6⟩ | ⟨h5, V', h6, ⟨h7, q, h8⟩ | ⟨h7, h8⟩⟩
  · exact absurd hb.1 h5
  · exact ⟨q, h8, h2⟩
  · obtain rfl := h6.one ok hb.2.1
    rw [hb.2.2] at h7
    cases h7

set_option maxRecDepth 100000 in
set_option maxHeartbeats 16000000 in
theorem StateOf_walk0 (w : World) {G G' : List Nat} {A1 A2 A3 B1 B2 B3 : Option Addr} {m1 c1 m2 c2 m3 c3 n1 d1 n2 d2 n3 d3 : Nat} (V V2 : VwD) (h : VA w G A1 m1 c1 A2 m2 c2 A3 m3 c3 V) (h' : VA w G' B1 n1 d1 B2 n2 d2 B3 n3 d3 V2) :
    Calls Tryz.prog 3 #[.agg #[.int .i64 V.gen, .slice A1 m1 c1, .slice A2 m2 c2, .slice A3 m3 c3], .agg #[.int .i64 V2.gen, .slice B1 n1 d1, .slice B2 n2 d2, .slice B3 n3 d3]] w fun e w' => e = .returned (.bool true) ∧ Kept [] w w' := by
  have L1 := h.bk.len
  have L2 := h.dr.len
  have L3 := h.fl.len
  have H := Lib.hid h
  have H' := Lib.hid h'
  have HL := Lib.hid (And.intro L1.1 (And.intro L2.1 L3.1))
  have l1 : m1 ≤ c1 := L1.2.1
  have l2 : m2 ≤ c2 := L2.2.1
  have l3 : m3 ≤ c3 := L3.2.1
  clear h h' L1 L2 L3
  have X0 := Lib.hid (Blk.alloc (Blk.new w 26 #[.int .i64 V.gen, .slice A1 m1 c1, .slice A2 m2 c2, .slice A3 m3 c3]) (.cells #[.int .i64 V2.gen, .slice B1 n1 d1, .slice B2 n2 d2, .slice B3 n3 d3] 26))
  have Y0 := Lib.hid (show Blk ((w.alloc (.cells #[.int .i64 V.gen, .slice A1 m1 c1, .slice A2 m2 c2, .slice A3 m3 c3] 26)).alloc (.cells #[.int .i64 V2.gen, .slice B1 n1 d1, .slice B2 n2 d2, .slice B3 n3 d3] 26)) (w.heap.size + 1) 26 #[.int .i64 V2.gen, .slice B1 n1 d1, .slice B2 n2 d2, .slice B3 n3 d3] from Blk.new' _ (by simp) _ _)
  have K0 := Lib.hid (((Kept.refl [] w).alloc (.cells #[.int .i64 V.gen, .slice A1 m1 c1, .slice A2 m2 c2, .slice A3 m3 c3] 26)).alloc (.cells #[.int .i64 V2.gen, .slice B1 n1 d1, .slice B2 n2 d2, .slice B3 n3 d3] 26))
  have hx0 := X0.out.cell
  have AW := Lib.hid (fun w' => awake14_any w')
  go_enter Tryz.func3, Tryz.ntmps3
  by_cases hbig : 300 < m3 ∨ 40 < m1 ∨ 60 < m2
  · have hways : ((300 : Int) < (m3 : Int)) ∨ (¬ (300 : Int) < (m3 : Int) ∧ (40 : Int) < (m1 : Int)) ∨ (¬ (300 : Int) < (m3 : Int) ∧ ¬ (40 : Int) < (m1 : Int) ∧ (60 : Int) < (m2 : Int)) := by omega
    clear hbig
    rcases hways with i1 | ⟨i1, i2⟩ | ⟨i1, i2, i3⟩
    all_goals
      go_wp2_with (go_at_call 4
                   refine (AW.out _).mono ?_
                   rintro e wy ⟨rfl, hky⟩
                   have KY := Lib.hid (K0.out.trans hky (by simp))
                   clear hky)
      go_ret
      exact ⟨rfl, KY.out⟩
  have i1 : ¬ (300 : Int) < (m3 : Int) := by omega
  have i2 : ¬ (40 : Int) < (m1 : Int) := by omega
  have i3 : ¬ (60 : Int) < (m2 : Int) := by omega
  have LE : Hid (V.drains.length ≤ 1000 ∧ V.flows.length ≤ 1000 ∧ V.backs.length ≤ 1000) := Lib.hid (by have := HL.out; omega)
  clear hbig
  obtain ⟨S0, e0, hrun⟩ : ∃ S e, runS newS (recsV V) = (S, e) := ⟨_, _, rfl⟩
  have RUN := Lib.hid hrun
  have OK : Hid (OkS S0) := Lib.hid (by have := run_ok OkS.new (recsV V); rw [hrun] at this; exact this)
  clear hrun
  obtain ⟨bs, hbs⟩ : ∃ b, sameV V V2 = b := ⟨_, rfl⟩
  have BS := Lib.hid hbs
  have hbb : (bs != bs) = false := by simp
  clear hbs
  by_cases hgood : e0 = 0 ∧ ∃ V', IsView S0 V' ∧ sameV V' V = true
  · obtain ⟨he0, V0, hv0, hsv0⟩ := hgood
    have GD := Lib.hid (And.intro he0 (And.intro hv0 hsv0))
    clear he0 hv0 hsv0
    go_upto_region 5 with (first
      | (go_at_call 5
         refine (Of_any _ V (H.out.go K0.out) LE.out.1 LE.out.2.1 LE.out.2.2).mono ?_
         rintro e w1 hpost
         obtain ⟨p, rfl, hst⟩ := of_good hpost RUN.out GD.out
         have hk1 := hst.kept
         have ST := Lib.hid hst
         clear hst
         have K1 := Lib.hid (K0.out.trans hk1 (by simp))
         have X1 := Lib.hid (X0.out.kept hk1 (by simp))
         have Y1 := Lib.hid (Y0.out.kept hk1 (by simp))
         have hx1 := X1.out.cell
         clear hk1 hpost)
      | (go_at_call 6
         refine (rOf_any _ V (H.out.go K1.out) LE.out.1 LE.out.2.1 LE.out.2.2).mono ?_
         rintro e w2 hpost
         obtain ⟨q, rfl, hk2⟩ := rof_good hpost RUN.out GD.out
         have ST2 := Lib.hid (ST.out.go hk2)
         have K2 := Lib.hid (K1.out.trans hk2 (by simp))
         have X2 := Lib.hid (X1.out.kept hk2 (by simp))
         have Y2 := Lib.hid (Y1.out.kept hk2 (by simp))
         clear hk2 hpost))
    clear hx1
    have KD := Lib.hid ((Kept.refl [] w2).drew)
    have KEEP := Lib.hid (fun (w' : World) (hkx : Kept [] w2 w') => (show (∀ o, w'.cell? ⟨w.heap.size, o, none⟩ = (#[.int .i64 V.gen, .slice A1 m1 c1, .slice A2 m2 c2, .slice A3 m3 c3] : Array Value)[o]?) ∧ (∀ o, w'.cell? ⟨w.heap.size + 1, o, none⟩ = (#[.int .i64 V2.gen, .slice B1 n1 d1, .slice B2 n2 d2, .slice B3 n3 d3] : Array Value)[o]?) from ⟨(X2.out.kept hkx (by simp)).cell, (Y2.out.kept hkx (by simp)).cell⟩))
    have VV := Lib.hid (fun (w' : World) (hk : Kept [] w2 w') => H.out.go (K2.out.trans hk (by simp)))
    have VW := Lib.hid (fun (w' : World) (hk : Kept [] w2 w') => H'.out.go (K2.out.trans hk (by simp)))
    go_region_held3 (fun w' => (∀ o, w'.cell? ⟨w.heap.size, o, none⟩ = (#[.int .i64 V.gen, .slice A1 m1 c1, .slice A2 m2 c2, .slice A3 m3 c3] : Array Value)[o]?) ∧ (∀ o, w'.cell? ⟨w.heap.size + 1, o, none⟩ = (#[.int .i64 V2.gen, .slice B1 n1 d1, .slice B2 n2 d2, .slice B3 n3 d3] : Array Value)[o]?))
      (first | with_reducible exact KEEP.out _ K5.out | with_reducible exact KEEP.out _ K4.out | with_reducible exact KEEP.out _ K3.out | with_reducible exact KEEP.out _ KD.out | with_reducible exact KEEP.out _ (Kept.refl _ _))
      (first
        | (go_at_call 7
           with_reducible refine (StSame_any w2.drew V V2 (VV.out _ KD.out) (VW.out _ KD.out)).mono ?_
           rintro e w3 ⟨rfl, hk3⟩
           rw [BS.out]
           have K3 := Lib.hid (KD.out.trans hk3 (by simp))
           clear hk3)
        | (go_at_call 8
           with_reducible refine (rSameState_any w3 V V2 (VV.out _ K3.out) (VW.out _ K3.out)).mono ?_
           rintro e w4 ⟨rfl, hk4⟩
           rw [BS.out]
           have K4 := Lib.hid (K3.out.trans hk4 (by simp))
           clear hk4)
        | (go_at_call 7
           with_reducible refine (StSame_any w4 V V (VV.out _ K4.out) (VV.out _ K4.out)).mono ?_
           rintro e w5 ⟨rfl, hk5⟩
           rw [sameV_self]
           have K5 := Lib.hid (K4.out.trans hk5 (by simp))
           clear hk5))
    all_goals
      go_wp2
      have KE := Lib.hid (K5.out.drew)
      have SE := Lib.hid (ST2.out.go KE.out)
      go_region_held3 (fun w' => (∀ o, w'.cell? ⟨w.heap.size, o, none⟩ = (#[.int .i64 V.gen, .slice A1 m1 c1, .slice A2 m2 c2, .slice A3 m3 c3] : Array Value)[o]?) ∧ (∀ o, w'.cell? ⟨w.heap.size + 1, o, none⟩ = (#[.int .i64 V2.gen, .slice B1 n1 d1, .slice B2 n2 d2, .slice B3 n3 d3] : Array Value)[o]?))
        (first | with_reducible exact KEEP.out _ K8.out | with_reducible exact KEEP.out _ K7.out | with_reducible exact KEEP.out _ K6.out | with_reducible exact KEEP.out _ KE.out | with_reducible exact KEEP.out _ K5.out)
        (first
          | (go_at_call 9
             refine (View_any SE.out OK.out).mono ?_
             rintro e w6 ⟨V9, a1, a2, a3, a4, a5, a6, a7, a8, a9, rfl, hv, h3⟩
             obtain rfl : V9 = V0 := hv.one OK.out GD.out.2.1
             have K6 := Lib.hid (KE.out.trans (LV.kept h3.bk) (by simp))
             obtain ⟨G7, hva, _⟩ := Vw3.va h3
             have VA6 := Lib.hid hva
             clear hv h3 hva)
          | (go_at_call 8
             refine (rSameState_any w6 V9 V VA6.out (VV.out _ K6.out)).mono ?_
             rintro e w7 ⟨rfl, hk7⟩
             rw [GD.out.2.2]
             have K7 := Lib.hid (K6.out.trans hk7 (by simp))
             clear hk7)
          | (go_at_call 4
             refine (AW.out _).mono ?_
             rintro e w8 ⟨rfl, hk8⟩
             have K8 := Lib.hid (K7.out.trans hk8 (by simp))
             clear hk8))
      all_goals
        go_wp2
        go_ret
        exact ⟨rfl, K2.out.trans K8.out (by simp)⟩
  · have NG := Lib.hid hgood
    obtain ⟨e1, he1⟩ : ∃ e1, (if e0 = 0 then 1 else e0) = e1 := ⟨_, rfl⟩
    have E1 := Lib.hid he1
    have hee : (e1 != e1) = false := by simp
    clear hgood he1
    go_upto_region 5 with (first
      | (go_at_call 5
         refine (Of_any _ V (H.out.go K0.out) LE.out.1 LE.out.2.1 LE.out.2.2).mono ?_
         rintro e w1 hpost
         obtain ⟨rfl, hk1⟩ := of_bad hpost RUN.out NG.out
         rw [E1.out]
         have K1 := Lib.hid (K0.out.trans hk1 (by simp))
         have X1 := Lib.hid (X0.out.kept hk1 (by simp))
         have Y1 := Lib.hid (Y0.out.kept hk1 (by simp))
         have hx1 := X1.out.cell
         clear hk1 hpost)
      | (go_at_call 6
         refine (rOf_any _ V (H.out.go K1.out) LE.out.1 LE.out.2.1 LE.out.2.2).mono ?_
         rintro e w2 hpost
         obtain ⟨rfl, hk2⟩ := rof_bad hpost RUN.out NG.out
         rw [E1.out]
         have K2 := Lib.hid (K1.out.trans hk2 (by simp))
         have X2 := Lib.hid (X1.out.kept hk2 (by simp))
         have Y2 := Lib.hid (Y1.out.kept hk2 (by simp))
         clear hk2 hpost))
    clear hx1
    have KD := Lib.hid ((Kept.refl [] w2).drew)
    have KEEP := Lib.hid (fun (w' : World) (hkx : Kept [] w2 w') => (show (∀ o, w'.cell? ⟨w.heap.size, o, none⟩ = (#[.int .i64 V.gen, .slice A1 m1 c1, .slice A2 m2 c2, .slice A3 m3 c3] : Array Value)[o]?) ∧ (∀ o, w'.cell? ⟨w.heap.size + 1, o, none⟩ = (#[.int .i64 V2.gen, .slice B1 n1 d1, .slice B2 n2 d2, .slice B3 n3 d3] : Array Value)[o]?) from ⟨(X2.out.kept hkx (by simp)).cell, (Y2.out.kept hkx (by simp)).cell⟩))
    have VV := Lib.hid (fun (w' : World) (hk : Kept [] w2 w') => H.out.go (K2.out.trans hk (by simp)))
    have VW := Lib.hid (fun (w' : World) (hk : Kept [] w2 w') => H'.out.go (K2.out.trans hk (by simp)))
    go_region_held3 (fun w' => (∀ o, w'.cell? ⟨w.heap.size, o, none⟩ = (#[.int .i64 V.gen, .slice A1 m1 c1, .slice A2 m2 c2, .slice A3 m3 c3] : Array Value)[o]?) ∧ (∀ o, w'.cell? ⟨w.heap.size + 1, o, none⟩ = (#[.int .i64 V2.gen, .slice B1 n1 d1, .slice B2 n2 d2, .slice B3 n3 d3] : Array Value)[o]?))
      (first | with_reducible exact KEEP.out _ K5.out | with_reducible exact KEEP.out _ K4.out | with_reducible exact KEEP.out _ K3.out | with_reducible exact KEEP.out _ KD.out | with_reducible exact KEEP.out _ (Kept.refl _ _))
      (first
        | (go_at_call 7
           with_reducible refine (StSame_any w2.drew V V2 (VV.out _ KD.out) (VW.out _ KD.out)).mono ?_
           rintro e w3 ⟨rfl, hk3⟩
           rw [BS.out]
           have K3 := Lib.hid (KD.out.trans hk3 (by simp))
           clear hk3)
        | (go_at_call 8
           with_reducible refine (rSameState_any w3 V V2 (VV.out _ K3.out) (VW.out _ K3.out)).mono ?_
           rintro e w4 ⟨rfl, hk4⟩
           rw [BS.out]
           have K4 := Lib.hid (K3.out.trans hk4 (by simp))
           clear hk4)
        | (go_at_call 7
           with_reducible refine (StSame_any w4 V V (VV.out _ K4.out) (VV.out _ K4.out)).mono ?_
           rintro e w5 ⟨rfl, hk5⟩
           rw [sameV_self]
           have K5 := Lib.hid (K4.out.trans hk5 (by simp))
           clear hk5))
    all_goals
      go_wp2
      have KE := Lib.hid (K5.out.drew)
      refine wp_region_held_drew (S := (fun w' => Kept [] w2 w')) (by kernel_rfl) ?_ (fun hHeld => ?_)
      focus (first | with_reducible exact K8.out | with_reducible exact KE.out | with_reducible exact K5.out | with_reducible exact K5.out.drew | with_reducible exact KE.out.drew)
      refine wpAnyH_take (i := 0) (oi := ⟨some 61, _, _, _, _, _⟩) (v := ?v0z) rfl (by kernel_rfl) (by kernel_rfl) (by kernel_rfl) (fun _ _ _ h => h) (Or.inl ⟨by kernel_rfl, ?hy0z⟩) (by assumption) ?rest0z
      case hy0z => (intro w9 hSw; (try dsimp only at hSw); go_simp; (try with_reducible rfl))
      simp only [Act.put, List.setIfInBounds_toArray, List.set_cons_zero, List.set_cons_succ]
      refine wpAnyH_take (i := 1) (oi := ⟨some 62, _, _, _, _, _⟩) (v := ?v1z) rfl (by kernel_rfl) (by kernel_rfl) (by kernel_rfl) (fun _ _ _ h => h) (Or.inl ⟨by kernel_rfl, ?hy1z⟩) (by assumption) ?rest1z
      case hy1z => (intro w9 hSw; (try dsimp only at hSw); go_simp; (try with_reducible rfl))
      simp only [Act.put, List.setIfInBounds_toArray, List.set_cons_zero, List.set_cons_succ]
      refine wpAnyH_take (i := 2) (oi := ⟨some 63, _, _, _, _, _⟩) (v := ?v2z) rfl (by kernel_rfl) (by kernel_rfl) (by kernel_rfl) (fun _ _ _ h => h) (Or.inl ⟨by kernel_rfl, ?hy2z⟩) (by assumption) ?rest2z
      case hy2z => (intro w9 hSw; (try dsimp only at hSw); go_simp; (try with_reducible rfl))
      simp only [Act.put, List.setIfInBounds_toArray, List.set_cons_zero, List.set_cons_succ]
      refine wpAnyH_take (i := 3) (oi := ⟨some 64, _, _, _, _, _⟩) (v := undef) rfl (by kernel_rfl) (by kernel_rfl) (by kernel_rfl) (fun _ _ _ h => h) (Or.inr ⟨by kernel_rfl, rfl⟩) (by assumption) ?_
      simp only [Act.put, List.setIfInBounds_toArray, List.set_cons_zero, List.set_cons_succ]
      refine wpAnyH_take (i := 4) (oi := ⟨some 65, _, _, _, _, _⟩) (v := undef) rfl (by kernel_rfl) (by kernel_rfl) (by kernel_rfl) (fun _ _ _ h => h) (Or.inr ⟨by kernel_rfl, rfl⟩) (by assumption) ?_
      simp only [Act.put, List.setIfInBounds_toArray, List.set_cons_zero, List.set_cons_succ]
      refine wpAnyH_take (i := 5) (oi := ⟨some 66, _, _, _, _, _⟩) (v := undef) rfl (by kernel_rfl) (by kernel_rfl) (by kernel_rfl) (fun _ _ _ h => h) (Or.inr ⟨by kernel_rfl, rfl⟩) (by assumption) ?_
      simp only [Act.put, List.setIfInBounds_toArray, List.set_cons_zero, List.set_cons_succ]
      refine wpAnyH_take (i := 6) (oi := ⟨some 67, _, _, _, _, _⟩) (v := undef) rfl (by kernel_rfl) (by kernel_rfl) (by kernel_rfl) (fun _ _ _ h => h) (Or.inr ⟨by kernel_rfl, rfl⟩) (by assumption) ?_
      simp only [Act.put, List.setIfInBounds_toArray, List.set_cons_zero, List.set_cons_succ]
      refine wpAnyH_take (i := 7) (oi := ⟨some 68, _, _, _, _, _⟩) (v := ?v7z) rfl (by kernel_rfl) (by kernel_rfl) (by kernel_rfl) (fun _ _ _ h => h) (Or.inl ⟨by kernel_rfl, ?hy7z⟩) (by assumption) ?rest7z
      case hy7z => (intro w9 hSw; (try dsimp only at hSw); go_simp; (try with_reducible rfl))
      simp only [Act.put, List.setIfInBounds_toArray, List.set_cons_zero, List.set_cons_succ]
      refine wpAnyH_take (i := 8) (oi := ⟨some 69, _, _, _, _, _⟩) (v := ?v8z) rfl (by kernel_rfl) (by kernel_rfl) (by kernel_rfl) (fun _ _ _ h => h) (Or.inl ⟨by kernel_rfl, ?hy8z⟩) (by assumption) ?rest8z
      case hy8z => (intro w9 hSw; (try dsimp only at hSw); go_simp; (try with_reducible rfl))
      simp only [Act.put, List.setIfInBounds_toArray, List.set_cons_zero, List.set_cons_succ]
      refine wpAnyH_ready (rs := [9]) (by kernel_rfl) (by simp) ?_
      refine AllReadyH.cons (o := ⟨some 70, _, _, _, _, _⟩) rfl (fun K9 hK9 => ?_) AllReadyH.nil
      go_simp
      go_at_call 4
      refine (AW.out _).mono ?_
      rintro e w8 ⟨rfl, hk8⟩
      have K8 : Hid (Kept [] w2 w8) := Lib.hid (hHeld.trans hk8 (by simp))
      clear hk8
      (try go_wp2_with fail)
      refine hK9.out _ _ ?_ (fun hHeld9 => ?_)
      focus (first | with_reducible exact K8.out | with_reducible exact KE.out | with_reducible exact K5.out | with_reducible exact K5.out.drew | with_reducible exact KE.out.drew)
      clear hK9 K9 hHeld
      have hHeld := hHeld9
      clear hHeld9
      try simp only [Act.put, List.setIfInBounds_toArray, List.set_cons_zero, List.set_cons_succ]
      refine wpAnyH_take (i := 10) (oi := ⟨some 71, _, _, _, _, _⟩) (v := ?v10z) rfl (by kernel_rfl) (by kernel_rfl) (by kernel_rfl) (fun _ _ _ h => h) (Or.inl ⟨by kernel_rfl, ?hy10z⟩) (by assumption) ?rest10z
      case hy10z => (intro w9 hSw; (try dsimp only at hSw); go_simp; (try with_reducible rfl))
      simp only [Act.put, List.setIfInBounds_toArray, List.set_cons_zero, List.set_cons_succ]
      refine wpAnyH_take (i := 11) (oi := ⟨some 4, _, _, _, _, _⟩) (v := ?v11z) rfl (by kernel_rfl) (by kernel_rfl) (by kernel_rfl) (fun _ _ _ h => h) (Or.inl ⟨by kernel_rfl, ?hy11z⟩) (by assumption) ?rest11z
      case hy11z => (intro w9 hSw; (try dsimp only at hSw); go_simp; (try with_reducible rfl))
      simp only [Act.put, List.setIfInBounds_toArray, List.set_cons_zero, List.set_cons_succ]
      refine wpAnyH_done (by kernel_rfl) ?_ _
      go_wp2
      go_ret
      exact ⟨rfl, K2.out.trans K8.out (by simp)⟩
set_option maxRecDepth 100000 in
theorem StateOf_walk {H : Type} {enc : TypeId × Value → H} {S : Prop} (W : World) (base : Nat) (v0 : Value) (d0 : DataW H) (p0 : List MemPlace) (v1 : Value) (d1 : DataW H) (p1 : List MemPlace)
    (hv0 : Value.okWide Tryz.prog W .any base 26 v0) (hv1 : Value.okWide Tryz.prog W .any base 26 v1)
    (h0 : DataW.Trod enc Tryz.prog W 0 (fun _ => true) true 26 v0 d0 p0) (h1 : DataW.Trod enc Tryz.prog W 0 (fun _ => true) true 26 v1 d1 p1) (_ : S) :
    Calls Tryz.prog 3 #[v0, v1] W fun e W' => e = .returned (.bool true) ∧ Below W.heap.size W W' := by
  obtain ⟨V, A1, m1, c1, A2, m2, c2, A3, m3, c3, rfl, hV⟩ := open_state hv0 h0
  obtain ⟨V2, B1, n1, e1, B2, n2, e2, B3, n3, e3, rfl, hV2⟩ := open_state hv1 h1
  exact (StateOf_walk0 W V V2 hV hV2).mono fun e W' ⟨h, hk⟩ => ⟨h, hk.below (Nat.le_refl _) (by simp)⟩
end Go.Proofs.YtdabbkkjmmbigaaGreat
