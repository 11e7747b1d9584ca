/-
  StateLast: what the walk holds.
-/
import Derived.Test.YtkacghjglicjiaaGreatStF
import Derived.Test.YtkacghjglicjiaaGreatStL
import Derived.Test.YtkacghjglicjiaaGreatLv
import Derived.Test.YtkacghjglicjiaaGreatRecD
import Derived.Test.YtkacghjglicjiaaGreatBlk
import Derived.Test.YtkacghjglicjiaaGreatRecC
import Derived.Test.YtkacghjglicjiaaGreatRecP
import Derived.Test.YtkacghjglicjiaaGreatMap
import Derived.Test.YtkacghjglicjiaaGreatStD
namespace Go.Proofs.YtkacghjglicjiaaGreat
set_option linter.unusedVariables false
section
open Go.RowKit Go.ChangeShapes Go.WideShapes Go.ChangeAt Go.Deep Go.MapKept
def kA : TupD := ⟨0, 0, 6, 0, 0⟩
theorem apply_blk {W w w' : World} {p bd bf : Nat} {A : Option Addr} {m c : Nat} {S : StD} (h : StAt W w p bd bf A m c S) (hk : Kept [p, bd, bf] w w') {g : Nat} {t : TypeId} {cs : Array Value} (hb : Blk w g t cs) (ht : t ≠ 144) : Blk w' g t cs := by
  have h1 : g ≠ p := hb.ne h.blk ht
  have h2 := h.md.ne_blk hb
  have h3 := h.mf.ne_blk hb
  exact hb.kept hk (by simpa using ⟨h1, fun e => h2 e.symm, fun e => h3 e.symm⟩)
end
section
open Go.RowKit Go.ChangeShapes Go.WideShapes Go.ChangeAt Go.Deep
section
variable {H : Type} {enc : TypeId × Value → H} {w : World}
theorem u32_of {n : Int} (h : (Lit.int .u32 n).wf = true) : ∃ x : UInt32, n = (x.toNat : Nat) := by
  simp [Lit.wf, IntKind.min, IntKind.max, IntKind.signed, IntKind.bits] at h
  refine ⟨UInt32.ofNat n.toNat, ?_⟩
  simp only [UInt32.toNat_ofNat']
  omega
set_option maxRecDepth 100000 in
theorem open_back {fuel : Nat} {cs : List Value} {x : DataW H × List MemPlace} (h : DataW.trod enc Tryz.prog w 0 (fun _ => true) true fuel 78 cs = some x) :
    ∃ b : BackD, BkDec w (old w) cs b ∧ 0 ≤ Rows.uptoBulk x.1 := by
  obtain ⟨xs, n, _, hx, hlen, hxl, hf⟩ := DataW.trod_struct Tryz.underlying78 h
  have hl3 : cs.length = 3 := hlen.trans (by kernel_rfl)
  match cs, hl3 with
  | [c0, c1, c2], _ =>
    match xs, hxl with
    | [x0, x1, x2], _ =>
      have f0 := hf 0 _ rfl
      have f1 := hf 1 _ rfl
      have f2 := hf 2 _ rfl
      have k3 : Tryz.prog.cellsOf 3 = 1 := by kernel_rfl
      have k22 : Tryz.prog.cellsOf 37 = 1 := by kernel_rfl
      simp [k3, k22] at f0 f1 f2
      obtain ⟨a, e0, _, _⟩ := DataW.trod_int Tryz.underlying3 f0
      obtain ⟨b, e1, _, wb⟩ := DataW.trod_int Tryz.underlying37 f1
      obtain ⟨c, e2, _, wc⟩ := DataW.trod_int Tryz.underlying3 f2
      injection e0 with e0; injection e1 with e1; injection e2 with e2
      subst e0 e1 e2
      obtain ⟨y, rfl⟩ := u32_of wb
      exact ⟨⟨a, y, c⟩, rfl, Nat.zero_le _⟩
set_option maxRecDepth 100000 in
theorem open_tuple {fuel : Nat} {cs : List Value} {x : DataW H × List MemPlace} (h : DataW.trod enc Tryz.prog w 0 (fun _ => true) true fuel 39 cs = some x) : ∃ t : TupD, cs = [.int .u32 (t.src.toNat : Nat), .int .u32 (t.dst.toNat : Nat), .int .i64 t.proto, .int .i64 t.sport, .int .i64 t.dport] := by
  obtain ⟨xs, n, _, hx, hlen, hxl, hf⟩ := DataW.trod_struct Tryz.underlying39 h
  have hl3 : cs.length = 5 := hlen.trans (by kernel_rfl)
  match cs, hl3 with
  | [c0, c1, c2, c3, c4], _ =>
    match xs, hxl with
    | [x0, x1, x2, x3, x4], _ =>
      have f0 := hf 0 _ rfl
      have f1 := hf 1 _ rfl
      have f2 := hf 2 _ rfl
      have f3 := hf 3 _ rfl
      have f4 := hf 4 _ rfl
      have k3 : Tryz.prog.cellsOf 3 = 1 := by kernel_rfl
      have k22 : Tryz.prog.cellsOf 37 = 1 := by kernel_rfl
      simp [k3, k22] at f0 f1 f2 f3 f4
      obtain ⟨a, e0, _, wa⟩ := DataW.trod_int Tryz.underlying37 f0
      obtain ⟨b, e1, _, wb⟩ := DataW.trod_int Tryz.underlying37 f1
      obtain ⟨c, e2, _, _⟩ := DataW.trod_int Tryz.underlying3 f2
      obtain ⟨d, e3, _, _⟩ := DataW.trod_int Tryz.underlying3 f3
      obtain ⟨e, e4, _, _⟩ := DataW.trod_int Tryz.underlying3 f4
      injection e0 with e0; injection e1 with e1; injection e2 with e2; injection e3 with e3; injection e4 with e4
      subst e0 e1 e2 e3 e4
      obtain ⟨x, rfl⟩ := u32_of wa
      obtain ⟨y, rfl⟩ := u32_of wb
      exact ⟨⟨x, y, c, d, e⟩, rfl⟩
set_option maxRecDepth 100000 in
theorem open_backs {fuel : Nat} {cs : List Value} {x : DataW H × List MemPlace} (h : DataW.trod enc Tryz.prog w 0 (fun _ => true) true fuel 22 cs = some x) :
    ∃ A m c l, cs = [.slice A m c] ∧ BkArr w (old w) (.slice A m c) l := by
  obtain ⟨A, m, c, E, D, e1, h2, h3, h4, h5, h6, h7⟩ := open_slice_at (n := 3) Tryz.underlying22 (by kernel_rfl) (by omega) h
  obtain ⟨l, hl, hd, hs⟩ := list_of_dec (α := BackD) (m := m) (E := E) (D := D) (Dec := fun cs a => BkDec w (old w) cs a) (bk := fun _ => 0) (fun i hi => by
    obtain ⟨_, fu, ps, ht⟩ := h6 i hi
    exact open_back ht)
  refine ⟨A, m, c, l, e1, A, m, c, rfl, hl, h2, h3, h4, fun hne => ?_⟩
  obtain ⟨g, o, e2, e3, e4⟩ := h5 (by
    rcases Nat.eq_zero_or_pos m with h0 | h0
    · subst h0; exact absurd (List.eq_nil_of_length_eq_zero hl) hne
    · exact h0)
  refine ⟨g, o, e2, List.mem_range.2 e3, e3, fun i a hi => ?_⟩
  have hlt : i < m := by have := (List.getElem?_eq_some_iff.1 hi).1; omega
  exact ⟨E i, (h6 i hlt).1, hd i a hi, fun j hj => e4 i j hlt hj⟩
set_option maxRecDepth 100000 in
theorem open_flow {fuel : Nat} {cs : List Value} {x : DataW H × List MemPlace} (h : DataW.trod enc Tryz.prog w 0 (fun _ => true) true fuel 41 cs = some x) : ∃ r : RecD, cs = [.int .u32 (r.tup.src.toNat : Nat), .int .u32 (r.tup.dst.toNat : Nat), .int .i64 r.tup.proto, .int .i64 r.tup.sport, .int .i64 r.tup.dport, .int .i64 r.fb, .int .i64 r.fg, .int .i64 r.fs] := by
  obtain ⟨xs, n, _, hx, hlen, hxl, hf⟩ := DataW.trod_struct Tryz.underlying41 h
  have hl3 : cs.length = 8 := hlen.trans (by kernel_rfl)
  match cs, hl3 with
  | [c0, c1, c2, c3, c4, c5, c6, c7], _ =>
    match xs, hxl with
    | [x0, x1, x2, x3], _ =>
      have f0 := hf 0 _ rfl
      have f1 := hf 1 _ rfl
      have f2 := hf 2 _ rfl
      have f3 := hf 3 _ rfl
      have k3 : Tryz.prog.cellsOf 3 = 1 := by kernel_rfl
      have k2 : Tryz.prog.cellsOf 2 = 1 := by kernel_rfl
      have k24 : Tryz.prog.cellsOf 39 = 5 := by kernel_rfl
      simp [k3, k2, k24] at f0 f1 f2 f3
      obtain ⟨t, e0⟩ := open_tuple f0
      obtain ⟨a, e1, _, _⟩ := DataW.trod_int Tryz.underlying3 f1
      obtain ⟨b, e2, _, _⟩ := DataW.trod_int Tryz.underlying3 f2
      obtain ⟨c, e3, _, _⟩ := DataW.trod_int Tryz.underlying2 f3
      simp only [List.cons.injEq, and_true] at e0 e1 e2 e3
      obtain ⟨rfl, rfl, rfl, rfl, rfl⟩ := e0
      subst e1 e2 e3
      exact ⟨{ (default : RecD) with tup := t, fb := a, fg := b, fs := c }, rfl⟩
end
end
section
open Go.RowKit Go.ChangeShapes Go.WideShapes Go.ChangeAt Go.Deep
def RecDec (w : World) (G : List Nat) (cs : List Value) (r : RecD) : Prop := ∃ A m c, cs = [.int .i64 r.kind, .int .u32 (r.tup.src.toNat : Nat), .int .u32 (r.tup.dst.toNat : Nat), .int .i64 r.tup.proto, .int .i64 r.tup.sport, .int .i64 r.tup.dport, .int .i64 r.fb, .int .i64 r.fg, .int .i64 r.fs, .int .i64 r.gen, .slice A m c, .int .i64 r.back, .int .i64 r.until_, .int .i64 r.count] ∧ BkArr w G (.slice A m c) r.backs
theorem BkArr.mono {w : World} {G G' : List Nat} {v : Value} {l : List BackD} (h : BkArr w G v l) (hg : ∀ k ∈ G, k ∈ G') : BkArr w G' v l := by
  obtain ⟨A, m, c, e, h1, h2, h3, h4, h5⟩ := h
  refine ⟨A, m, c, e, h1, h2, h3, h4, fun hne => ?_⟩
  obtain ⟨g, o, e2, hm, hlt, hc⟩ := h5 hne
  exact ⟨g, o, e2, hg g hm, hlt, hc⟩
set_option maxRecDepth 100000 in
theorem RecOk : DecOk 14 RecDec where
  len := by rintro w G cs f ⟨A, m, c, rfl, h⟩; rfl
  one := by rintro w G cs f ⟨A, m, c, rfl, h⟩ u hu; simp at hu; rcases hu with rfl | rfl | rfl | rfl | rfl | rfl | rfl | rfl | rfl | rfl | rfl | rfl | rfl | rfl <;> rfl
  kept := by rintro w w' G S cs f ⟨A, m, c, rfl, h⟩ hk hd; exact ⟨A, m, c, rfl, BkArr.kept h hk hd⟩
  mono := by rintro w G G' cs f ⟨A, m, c, rfl, h⟩ hg; exact ⟨A, m, c, rfl, h.mono hg⟩
abbrev RecArr (w : World) (G : List Nat) (v : Value) (l : List RecD) : Prop := ArrOf w G 14 (fun w => RecDec w G) v l
abbrev RecV (W w : World) (v : Value) (l : List RecD) : Prop := LV RecDec 43 14 W w v l
theorem RecArr.kept {w w' : World} {G S : List Nat} {v : Value} {l : List RecD} (h : RecArr w G v l) (hk : Kept S w w') (hd : ∀ k ∈ G, k ∉ S) : RecArr w' G v l :=
  ArrOf.kept (Dec := fun w => RecDec w G) h hk hd (fun cs a h => RecOk.kept h hk hd)
def RecAt (w : World) (g o : Nat) (r : RecD) (s : Value) : Prop :=
  w.cell? ⟨g, o, none⟩ = some (.int .i64 r.kind) ∧ w.cell? ⟨g, o + 1, none⟩ = some (.int .u32 (r.tup.src.toNat : Nat)) ∧ w.cell? ⟨g, o + 2, none⟩ = some (.int .u32 (r.tup.dst.toNat : Nat)) ∧
  w.cell? ⟨g, o + 3, none⟩ = some (.int .i64 r.tup.proto) ∧ w.cell? ⟨g, o + 4, none⟩ = some (.int .i64 r.tup.sport) ∧ w.cell? ⟨g, o + 5, none⟩ = some (.int .i64 r.tup.dport) ∧
  w.cell? ⟨g, o + 6, none⟩ = some (.int .i64 r.fb) ∧ w.cell? ⟨g, o + 7, none⟩ = some (.int .i64 r.fg) ∧ w.cell? ⟨g, o + 8, none⟩ = some (.int .i64 r.fs) ∧
  w.cell? ⟨g, o + 9, none⟩ = some (.int .i64 r.gen) ∧ w.cell? ⟨g, o + 10, none⟩ = some s ∧ w.cell? ⟨g, o + 11, none⟩ = some (.int .i64 r.back) ∧
  w.cell? ⟨g, o + 12, none⟩ = some (.int .i64 r.until_) ∧ w.cell? ⟨g, o + 13, none⟩ = some (.int .i64 r.count)
set_option maxRecDepth 100000 in
theorem RecArr.at {w : World} {G : List Nat} {A : Option Addr} {m c : Nat} {l : List RecD} (h : RecArr w G (.slice A m c) l) {k : Nat} (hk : k < l.length) :
    ∃ g o B n d, A = some ⟨g, o, none⟩ ∧ g < w.heap.size ∧ g ∈ G ∧ RecAt w g (o + k * 14) l[k] (.slice B n d) ∧ BkArr w G (.slice B n d) l[k].backs := by
  obtain ⟨A', m', c', e, h1, h2, h3, h4, h5⟩ := h
  injection e with e1 e2 e3
  subst e1 e2 e3
  obtain ⟨g, o, rfl, hg, hlt, hc⟩ := h5 (by rintro rfl; simp at hk)
  obtain ⟨cs, _, ⟨B, n, d, rfl, hr⟩, hcell⟩ := hc k _ (List.getElem?_eq_getElem hk)
  have F : ∀ j, j < 14 → w.cell? ⟨g, o + k * 14 + j, none⟩ = ([.int .i64 l[k].kind, .int .u32 (l[k].tup.src.toNat : Nat), .int .u32 (l[k].tup.dst.toNat : Nat), .int .i64 l[k].tup.proto, .int .i64 l[k].tup.sport, .int .i64 l[k].tup.dport, .int .i64 l[k].fb, .int .i64 l[k].fg, .int .i64 l[k].fs, .int .i64 l[k].gen, .slice B n d, .int .i64 l[k].back, .int .i64 l[k].until_, .int .i64 l[k].count] : List Value)[j]? := fun j hj => by
    have := hcell j hj
    rwa [← Nat.add_assoc] at this
  exact ⟨g, o, B, n, d, rfl, hlt, hg, ⟨F 0 (by omega), F 1 (by omega), F 2 (by omega), F 3 (by omega), F 4 (by omega), F 5 (by omega), F 6 (by omega), F 7 (by omega), F 8 (by omega), F 9 (by omega), F 10 (by omega), F 11 (by omega), F 12 (by omega), F 13 (by omega)⟩, hr⟩
theorem RecArr.len {w : World} {G : List Nat} {A : Option Addr} {m c : Nat} {l : List RecD} (h : RecArr w G (.slice A m c) l) : l.length = m ∧ m ≤ c ∧ c ≤ maxLen ∧ (A = none → m = 0 ∧ c = 0) := by
  obtain ⟨A', m', c', e, h1, h2, h3, h4, h5⟩ := h
  injection e with e1 e2 e3
  subst e1 e2 e3
  exact ⟨h1, h2, h3, h4⟩
section
variable {H : Type} {enc : TypeId × Value → H} {w : World}
set_option maxRecDepth 100000 in
theorem open_record_cells {fuel : Nat} {cs : List Value} {x : DataW H × List MemPlace} (h : DataW.trod enc Tryz.prog w 0 (fun _ => true) true fuel 43 cs = some x) :
    ∃ r : RecD, RecDec w (old w) cs r ∧ 0 ≤ Rows.uptoBulk x.1 := by
  obtain ⟨xs, n, _, hx, hlen, hxl, hf⟩ := DataW.trod_struct Tryz.underlying43 h
  have hl3 : cs.length = 14 := hlen.trans (by kernel_rfl)
  match cs, hl3 with
  | [c0, c1, c2, c3, c4, c5, c6, c7, c8, c9, c10, c11, c12, c13], _ =>
    match xs, hxl with
    | [x0, x1, x2, x3, x4, x5, x6], _ =>
      have f0 := hf 0 _ rfl
      have f1 := hf 1 _ rfl
      have f2 := hf 2 _ rfl
      have f3 := hf 3 _ rfl
      have f4 := hf 4 _ rfl
      have f5 := hf 5 _ rfl
      have f6 := hf 6 _ rfl
      have k3 : Tryz.prog.cellsOf 3 = 1 := by kernel_rfl
      have k2 : Tryz.prog.cellsOf 2 = 1 := by kernel_rfl
      have k26 : Tryz.prog.cellsOf 41 = 8 := by kernel_rfl
      have k27 : Tryz.prog.cellsOf 22 = 1 := by kernel_rfl
      simp [k3, k2, k26, k27] at f0 f1 f2 f3 f4 f5 f6
      obtain ⟨a0, e0, _, _⟩ := DataW.trod_int Tryz.underlying3 f0
      obtain ⟨r1, e1⟩ := open_flow f1
      obtain ⟨a2, e2, _, _⟩ := DataW.trod_int Tryz.underlying3 f2
      obtain ⟨A, m, c, l, e3, hl⟩ := open_backs f3
      obtain ⟨a4, e4, _, _⟩ := DataW.trod_int Tryz.underlying3 f4
      obtain ⟨a5, e5, _, _⟩ := DataW.trod_int Tryz.underlying2 f5
      obtain ⟨a6, e6, _, _⟩ := DataW.trod_int Tryz.underlying3 f6
      simp only [List.cons.injEq, and_true] at e0 e1 e2 e3 e4 e5 e6
      obtain ⟨rfl, rfl, rfl, rfl, rfl, rfl, rfl, rfl⟩ := e1
      subst e0 e2 e3 e4 e5 e6
      exact ⟨⟨a0, r1.tup, r1.fb, r1.fg, r1.fs, a2, l, a4, a5, a6⟩, ⟨A, m, c, rfl, hl⟩, Nat.zero_le _⟩
set_option maxRecDepth 100000 in
theorem open_records {v : Value} {d : DataW H} {p : List MemPlace} {base : Nat} (hv : Value.okWide Tryz.prog w .any base 27 v) (h : DataW.Trod enc Tryz.prog w 0 (fun _ => true) true 27 v d p) :
    ∃ A m c l, v = .slice A m c ∧ RecArr w (old w) (.slice A m c) l := by
  obtain ⟨l, hl, -⟩ := open_list (n := 14) (Dec := RecDec) (bk := fun _ => 0) Tryz.underlying27 (by kernel_rfl) (by omega) (fun h => open_record_cells h) hv h
  obtain ⟨A, m, c, rfl, _⟩ := id hl
  exact ⟨A, m, c, l, rfl, hl⟩
end
end
section
open Go.RowKit Go.ChangeShapes Go.WideShapes Go.ChangeAt Go.Deep
end
section
open Go.RowKit
theorem apply_flows (S : StD) (r : RecD) : (applyS S r).flows = if errS S r = 0 then (if r.kind = 1 then putM S.flows r.tup (flowR r) else if r.kind = 2 then delM S.flows r.tup else S.flows) else S.flows := by
  unfold applyS doneS
  by_cases he : errS S r = 0 <;> by_cases h1 : r.kind = 1 <;> by_cases h2 : r.kind = 2 <;> by_cases h3 : r.kind = 3 <;> by_cases h4 : r.kind = 4 <;> by_cases h5 : r.kind = 5 <;> first | omega | simp [he, h1, h2, h3, h4, h5]
theorem sorted_one {α : Type} {R : α → α → Prop} (hi : ∀ a b, R a b → R b a → False) : ∀ {l l' : List α}, l.Perm l' → l.Pairwise R → l'.Pairwise R → l = l'
  | [], l', h, _, _ => (List.nil_perm.1 h).symm
  | a :: t, [], h, _, _ => absurd h.length_eq (by simp)
  | a :: t, b :: t', h, h1, h2 => by
    have ha : a ∈ b :: t' := h.mem_iff.1 (by simp)
    have hb : b ∈ a :: t := h.mem_iff.2 (by simp)
    have e : a = b := by
      rcases List.mem_cons.1 ha with e | ha
      · exact e
      · rcases List.mem_cons.1 hb with e | hb
        · exact e.symm
        · exact (hi a b ((List.pairwise_cons.1 h1).1 b hb) ((List.pairwise_cons.1 h2).1 a ha)).elim
    subst e
    rw [sorted_one hi (List.Perm.cons_inv h) (List.pairwise_cons.1 h1).2 (List.pairwise_cons.1 h2).2]
end
section
open Go.RowKit Go.ChangeShapes Go.WideShapes Go.ChangeAt Go.Deep Go.MapKept
theorem StAt.far {W w w' : World} {p bd bf : Nat} {A : Option Addr} {m c : Nat} {S : StD} (h : StAt W w p bd bf A m c S) {g : Nat} {t : TypeId} {cs : Array Value} (hb : Blk w g t cs) (h1 : t ≠ 144) (h2 : 78 ≠ t) (hg : W.heap.size ≤ g) (hk : Kept [g] w w') : StAt W w' p bd bf A m c S :=
  ⟨h.blk.kept hk (by simpa using fun e => (hb.ne h.blk h1) e.symm), h.md.kept hk (by simpa using h.md.ne_blk hb), h.mf.kept hk (by simpa using h.mf.ne_blk hb), BkV.far h.bk hk hb h2 hg, h.hp, h.hd, h.hf, h.ne⟩
theorem StB.far {W w w' : World} {p : Nat} {S : StD} (h : StB W w p S) {g : Nat} {t : TypeId} {cs : Array Value} (hb : Blk w g t cs) (h1 : t ≠ 144) (h2 : 78 ≠ t) (hg : W.heap.size ≤ g) (hk : Kept [g] w w') : StB W w' p S := by
  obtain ⟨bd, bf, A, m, c, h⟩ := h
  exact ⟨bd, bf, A, m, c, h.far hb h1 h2 hg hk⟩
end
end Go.Proofs.YtkacghjglicjiaaGreat
