
/-
  Rows of records that a law takes: light.
-/
import Derived.Test.YtdabbkkjmmbigaaGreatRecZ
import Derived.Test.YtdabbkkjmmbigaaGreatBkx
import Derived.Test.YtdabbkkjmmbigaaGreatRecC
import Derived.Test.YtdabbkkjmmbigaaGreatGenN
import Derived.Test.YtdabbkkjmmbigaaGreatBlk
section
namespace Go.Proofs.YtdabbkkjmmbigaaGreat
open Go.RowKit Go.ChangeShapes Go.WideShapes Go.ChangeAt Go.Deep
set_option linter.unusedVariables false

/-- cells that read a record -/
def RecDec (w : World) (G : List Nat) (cs : List Value) (r : RecD) : Prop := ∃ A m c, cs = [.int .i64 r.kind, .int .u32 (r.tup.src.toNat : Nat), .int .u32 (r.tup.dst.toNat : Nat), .int .i64 r.tup.proto, .int .i64 r.tup.sport, .int .i64 r.tup.dport, .int .i64 r.fb, .int .i64 r.fg, .int .i64 r.fs, .int .i64 r.gen, .slice A m c, .int .i64 r.back, .int .i64 r.until_, .int .i64 r.count] ∧ BkArr w G (.slice A m c) r.backs
theorem BkArr.mono {w : World} {G G' : List Nat} {v : Value} {l : List BackD} (h : BkArr w G v l) (hg : ∀ k ∈ G, k ∈ G') : BkArr w G' v l := by
  obtain ⟨A, m, c, e, h1, h2, h3, h4, h5⟩ := h
  refine ⟨A, m, c, e, h1, h2, h3, h4, fun hne => ?_⟩
  obtain ⟨g, o, e2, hm, hlt, hc⟩ := h5 hne
  exact ⟨g, o, e2, hg g hm, hlt, hc⟩
set_option maxRecDepth 100000 in
theorem RecOk : DecOk 14 RecDec where
  len := by rintro w G cs f ⟨A, m, c, rfl, h⟩; rfl
  one := by rintro w G cs f ⟨A, m, c, rfl, h⟩ u hu; simp at hu; rcases hu with rfl | rfl | rfl | rfl | rfl | rfl | rfl | rfl | rfl | rfl | rfl | rfl | rfl | rfl <;> rfl
  kept := by rintro w w' G S cs f ⟨A, m, c, rfl, h⟩ hk hd; exact ⟨A, m, c, rfl, BkArr.kept h hk hd⟩
  mono := by rintro w G G' cs f ⟨A, m, c, rfl, h⟩ hg; exact ⟨A, m, c, rfl, h.mono hg⟩
abbrev RecArr (w : World) (G : List Nat) (v : Value) (l : List RecD) : Prop := ArrOf w G 14 (fun w => RecDec w G) v l
abbrev RecV (W w : World) (v : Value) (l : List RecD) : Prop := LV RecDec 45 14 W w v l
theorem RecArr.kept {w w' : World} {G S : List Nat} {v : Value} {l : List RecD} (h : RecArr w G v l) (hk : Kept S w w') (hd : ∀ k ∈ G, k ∉ S) : RecArr w' G v l :=
  ArrOf.kept (Dec := fun w => RecDec w G) h hk hd (fun cs a h => RecOk.kept h hk hd)
/-- one record of a row: its cells -/
def RecAt (w : World) (g o : Nat) (r : RecD) (s : Value) : Prop :=
  w.cell? ⟨g, o, none⟩ = some (.int .i64 r.kind) ∧ w.cell? ⟨g, o + 1, none⟩ = some (.int .u32 (r.tup.src.toNat : Nat)) ∧ w.cell? ⟨g, o + 2, none⟩ = some (.int .u32 (r.tup.dst.toNat : Nat)) ∧
  w.cell? ⟨g, o + 3, none⟩ = some (.int .i64 r.tup.proto) ∧ w.cell? ⟨g, o + 4, none⟩ = some (.int .i64 r.tup.sport) ∧ w.cell? ⟨g, o + 5, none⟩ = some (.int .i64 r.tup.dport) ∧
  w.cell? ⟨g, o + 6, none⟩ = some (.int .i64 r.fb) ∧ w.cell? ⟨g, o + 7, none⟩ = some (.int .i64 r.fg) ∧ w.cell? ⟨g, o + 8, none⟩ = some (.int .i64 r.fs) ∧
  w.cell? ⟨g, o + 9, none⟩ = some (.int .i64 r.gen) ∧ w.cell? ⟨g, o + 10, none⟩ = some s ∧ w.cell? ⟨g, o + 11, none⟩ = some (.int .i64 r.back) ∧
  w.cell? ⟨g, o + 12, none⟩ = some (.int .i64 r.until_) ∧ w.cell? ⟨g, o + 13, none⟩ = some (.int .i64 r.count)
set_option maxRecDepth 100000 in
theorem RecArr.at {w : World} {G : List Nat} {A : Option Addr} {m c : Nat} {l : List RecD} (h : RecArr w G (.slice A m c) l) {k : Nat} (hk : k < l.length) :
    ∃ g o B n d, A = some ⟨g, o, none⟩ ∧ g < w.heap.size ∧ g ∈ G ∧ RecAt w g (o + k * 14) l[k] (.slice B n d) ∧ BkArr w G (.slice B n d) l[k].backs := by
  obtain ⟨A', m', c', e, h1, h2, h3, h4, h5⟩ := h
  injection e with e1 e2 e3
  subst e1 e2 e3
  obtain ⟨g, o, rfl, hg, hlt, hc⟩ := h5 (by rintro rfl; simp at hk)
  obtain ⟨cs, _, ⟨B, n, d, rfl, hr⟩, hcell⟩ := hc k _ (List.getElem?_eq_getElem hk)
  have F : ∀ j, j < 14 → w.cell? ⟨g, o + k * 14 + j, none⟩ = ([.int .i64 l[k].kind, .int .u32 (l[k].tup.src.toNat : Nat), .int .u32 (l[k].tup.dst.toNat : Nat), .int .i64 l[k].tup.proto, .int .i64 l[k].tup.sport, .int .i64 l[k].tup.dport, .int .i64 l[k].fb, .int .i64 l[k].fg, .int .i64 l[k].fs, .int .i64 l[k].gen, .slice B n d, .int .i64 l[k].back, .int .i64 l[k].until_, .int .i64 l[k].count] : List Value)[j]? := fun j hj => by
    have := hcell j hj
    rwa [← Nat.add_assoc] at this
  exact ⟨g, o, B, n, d, rfl, hlt, hg, ⟨F 0 (by omega), F 1 (by omega), F 2 (by omega), F 3 (by omega), F 4 (by omega), F 5 (by omega), F 6 (by omega), F 7 (by omega), F 8 (by omega), F 9 (by omega), F 10 (by omega), F 11 (by omega), F 12 (by omega), F 13 (by omega)⟩, hr⟩
theorem RecArr.len {w : World} {G : List Nat} {A : Option Addr} {m c : Nat} {l : List RecD} (h : RecArr w G (.slice A m c) l) : l.length = m ∧ m ≤ c ∧ c ≤ maxLen ∧ (A = none → m = 0 ∧ c = 0) := by
  obtain ⟨A', m', c', e, h1, h2, h3, h4, h5⟩ := h
  injection e with e1 e2 e3
  subst e1 e2 e3
  exact ⟨h1, h2, h3, h4⟩
section
variable {H : Type} {enc : TypeId × Value → H} {w : World}
set_option maxRecDepth 100000 in
theorem open_record_cells {fuel : Nat} {cs : List Value} {x : DataW H × List MemPlace} (h : DataW.trod enc Tryz.prog w 0 (fun _ => true) true fuel 45 cs = some x) :
    ∃ r : RecD, RecDec w (old w) cs r ∧ 0 ≤ Rows.uptoBulk x.1 := by
  obtain ⟨xs, n, _, hx, hlen, hxl, hf⟩ := DataW.trod_struct Tryz.underlying45 h
  have hl3 : cs.length = 14 := hlen.trans (by kernel_rfl)
  match cs, hl3 with
  | [c0, c1, c2, c3, c4, c5, c6, c7, c8, c9, c10, c11, c12, c13], _ =>
    match xs, hxl with
    | [x0, x1, x2, x3, x4, x5, x6], _ =>
      have f0 := hf 0 _ rfl
      have f1 := hf 1 _ rfl
      have f2 := hf 2 _ rfl
      have f3 := hf 3 _ rfl
      have f4 := hf 4 _ rfl
      have f5 := hf 5 _ rfl
      have f6 := hf 6 _ rfl
      have k3 : Tryz.prog.cellsOf 3 = 1 := by kernel_rfl
      have k2 : Tryz.prog.cellsOf 2 = 1 := by kernel_rfl
      have k26 : Tryz.prog.cellsOf 43 = 8 := by kernel_rfl
      have k27 : Tryz.prog.cellsOf 22 = 1 := by kernel_rfl
      simp [k3, k2, k26, k27] at f0 f1 f2 f3 f4 f5 f6
      obtain ⟨a0, e0, _, _⟩ := DataW.trod_int Tryz.underlying3 f0
      obtain ⟨r1, e1⟩ := open_flow f1
      obtain ⟨a2, e2, _, _⟩ := DataW.trod_int Tryz.underlying3 f2
      obtain ⟨A, m, c, l, e3, hl⟩ := open_backs f3
      obtain ⟨a4, e4, _, _⟩ := DataW.trod_int Tryz.underlying3 f4
      obtain ⟨a5, e5, _, _⟩ := DataW.trod_int Tryz.underlying2 f5
      obtain ⟨a6, e6, _, _⟩ := DataW.trod_int Tryz.underlying3 f6
      simp only [List.cons.injEq, and_true] at e0 e1 e2 e3 e4 e5 e6
      obtain ⟨rfl, rfl, rfl, rfl, rfl, rfl, rfl, rfl⟩ := e1
      subst e0 e2 e3 e4 e5 e6
      exact ⟨⟨a0, r1.tup, r1.fb, r1.fg, r1.fs, a2, l, a4, a5, a6⟩, ⟨A, m, c, rfl, hl⟩, Nat.zero_le _⟩
set_option maxRecDepth 100000 in
theorem open_records {v : Value} {d : DataW H} {p : List MemPlace} {base : Nat} (hv : Value.okWide Tryz.prog w .any base 49 v) (h : DataW.Trod enc Tryz.prog w 0 (fun _ => true) true 49 v d p) :
    ∃ A m c l, v = .slice A m c ∧ RecArr w (old w) (.slice A m c) l := by
  obtain ⟨l, hl, -⟩ := open_list (n := 14) (Dec := RecDec) (bk := fun _ => 0) Tryz.underlying49 (by kernel_rfl) (by omega) (fun h => open_record_cells h) hv h
  obtain ⟨A, m, c, rfl, _⟩ := id hl
  exact ⟨A, m, c, l, rfl, hl⟩
end
/-- the rows that the laws on states take -/
def lightB (l : List RecD) : Bool := decide (l.length ≤ 200) && l.all fun r => decide (r.backs.length ≤ 40)
end Go.Proofs.YtdabbkkjmmbigaaGreat
end

section
namespace Go.Proofs.YtdabbkkjmmbigaaGreat
open Go.RowKit Go.ChangeShapes Go.WideShapes Go.ChangeAt Go.Deep
set_option linter.unusedVariables false

theorem light_no {l : List RecD} (h : 200 < l.length) : lightB l = false := by
  unfold lightB
  rw [decide_eq_false (by omega)]; rfl
theorem light_big {l : List RecD} {k : Nat} (hk : k < l.length) (h : 40 < l[k].backs.length) : lightB l = false := by
  have : (l.all fun r => decide (r.backs.length ≤ 40)) = false := by
    cases hc : l.all fun r => decide (r.backs.length ≤ 40)
    · rfl
    · have := List.all_eq_true.1 hc l[k] (List.getElem_mem hk)
      simp at this
      omega
  unfold lightB
  rw [this, Bool.and_false]
theorem light_yes {l : List RecD} (h : l.length ≤ 200) (hb : ∀ r ∈ l, r.backs.length ≤ 40) : lightB l = true := by
  unfold lightB
  rw [decide_eq_true h, Bool.true_and, List.all_eq_true]
  intro r hr
  exact decide_eq_true (hb r hr)
theorem light_iff {l : List RecD} : lightB l = true ↔ l.length ≤ 200 ∧ ∀ r ∈ l, r.backs.length ≤ 40 := by
  unfold lightB
  simp
set_option maxRecDepth 100000 in
theorem open_tuple_v {H : Type} {enc : TypeId × Value → H} {w : World} {v : Value} {d : DataW H} {p : List MemPlace} {base : Nat} (hv : Value.okWide Tryz.prog w .any base 40 v) (h : DataW.Trod enc Tryz.prog w 0 (fun _ => true) true 40 v d p) : ∃ t : TupD, v = .agg #[.int .u32 (t.src.toNat : Nat), .int .u32 (t.dst.toNat : Nat), .int .i64 t.proto, .int .i64 t.sport, .int .i64 t.dport] := by
  obtain ⟨cs, rfl, _⟩ := okWide_struct Tryz.underlying40 hv
  obtain ⟨fuel, hf⟩ := h
  obtain ⟨t, e⟩ := open_tuple hf
  refine ⟨t, ?_⟩
  have e : cs.toList = [.int .u32 (t.src.toNat : Nat), .int .u32 (t.dst.toNat : Nat), .int .i64 t.proto, .int .i64 t.sport, .int .i64 t.dport] := by simpa [Value.cells] using e
  rw [← Array.toArray_toList (xs := cs), e]
end Go.Proofs.YtdabbkkjmmbigaaGreat
end
