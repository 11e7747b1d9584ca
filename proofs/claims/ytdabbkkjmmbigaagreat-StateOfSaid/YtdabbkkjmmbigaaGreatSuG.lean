
/-
  StateApart, StateAnew: calls; plain laws of views.
-/
import Derived.Test.YtdabbkkjmmbigaaGreatSuF
namespace Go.Proofs.YtdabbkkjmmbigaaGreat
open Go.RowKit Go.ChangeShapes Go.WideShapes Go.ChangeAt Go.Deep Go.MapKept
set_option linter.unusedVariables false

theorem view_p {W w : World} {p bd bf : Nat} {S : StD} (h : StP W w p bd bf S) (ok : OkS S) : Calls Tryz.prog 9 #[.pointer (some ⟨p, 0, none⟩)] w fun e w' => ∃ V A1 m1 c1 A2 m2 c2 A3 m3 c3 G, e = .returned (.agg #[.int .i64 V.gen, .slice A1 m1 c1, .slice A2 m2 c2, .slice A3 m3 c3]) ∧ IsView S V ∧ VA w' G A1 m1 c1 A2 m2 c2 A3 m3 c3 V ∧ (∀ k ∈ G, w.heap.size ≤ k) ∧ Kept [] w w' := by
  refine (View_any h.b ok).mono ?_
  rintro e w1 ⟨V, A1, m1, c1, A2, m2, c2, A3, m3, c3, rfl, hv, h3⟩
  obtain ⟨G, hva, hg⟩ := Vw3.va h3
  exact ⟨V, A1, m1, c1, A2, m2, c2, A3, m3, c3, G, rfl, hv, hva, hg, LV.kept h3.bk⟩
set_option maxRecDepth 100000 in
theorem RecArr.one {w : World} {g : Nat} {r : RecD} {G : List Nat} {A : Option Addr} {m c : Nat} (hb : Blk w g 45 #[.int .i64 r.kind, .int .u32 (r.tup.src.toNat : Nat), .int .u32 (r.tup.dst.toNat : Nat), .int .i64 r.tup.proto, .int .i64 r.tup.sport, .int .i64 r.tup.dport, .int .i64 r.fb, .int .i64 r.fg, .int .i64 r.fs, .int .i64 r.gen, .slice A m c, .int .i64 r.back, .int .i64 r.until_, .int .i64 r.count]) (hr : BkArr w G (.slice A m c) r.backs) : RecArr w (g :: G) (.slice (some ⟨g, 0, none⟩) 1 1) [r] := by
  refine ⟨_, 1, 1, rfl, rfl, by omega, by unfold maxLen; omega, by simp, fun _ => ⟨g, 0, rfl, by simp, hb.lt, fun i a hi => ⟨[.int .i64 a.kind, .int .u32 (a.tup.src.toNat : Nat), .int .u32 (a.tup.dst.toNat : Nat), .int .i64 a.tup.proto, .int .i64 a.tup.sport, .int .i64 a.tup.dport, .int .i64 a.fb, .int .i64 a.fg, .int .i64 a.fs, .int .i64 a.gen, .slice A m c, .int .i64 a.back, .int .i64 a.until_, .int .i64 a.count], rfl, ⟨A, m, c, rfl, ?_⟩, fun j hj => ?_⟩⟩⟩
  · cases i with
    | zero => simp at hi; subst hi; exact BkArr.mono hr (fun k hk => List.mem_cons_of_mem _ hk)
    | succ i => simp at hi
  · cases i with
    | zero =>
      simp at hi; subst hi
      rw [Nat.zero_mul, Nat.zero_add, Nat.zero_add, hb.cell j]
      simp
    | succ i => simp at hi
theorem light_one {r : RecD} : lightB [r] = decide (r.backs.length ≤ 40) := by
  show (true && (decide (r.backs.length ≤ 40) && true)) = _
  rw [Bool.true_and, Bool.and_true]
/-- a view's flows are found -/
theorem IsView.flow {S : StD} (ok : OkS S) {V : VwD} (h : IsView S V) {f : FlD} (hf : f ∈ V.flows) : getM S.flows f.tup = some f := by
  obtain ⟨p, hp, rfl⟩ := List.mem_map.1 (h.fp.mem_iff.1 hf)
  rw [ok.own p hp]
  exact getM_of_mem ok.nf (by cases p; exact hp)
theorem IsView.drain {S : StD} (ok : OkS S) {V : VwD} (h : IsView S V) {d : Int × Int} : d ∈ V.drains ↔ getM S.drains d.1 = some d.2 := by
  rw [h.dp.mem_iff]
  constructor
  · intro hd
    exact getM_of_mem ok.nd (by cases d; exact hd)
  · intro hd
    have := getM_mem hd
    cases d; exact this
/-- is it of another backend? -/
def othr (r : RecD) (d : Int × Int) : Bool := decide (r.kind = 1 ∨ r.kind = 2) || decide (d.1 ≠ r.back)
theorem apart_in {S : StD} (ok : OkS S) {r : RecD} {V V' : VwD} (h : IsView S V) (h' : IsView (applyS S r) V') {d : Int × Int} (hd : d ∈ V.drains) (ho : othr r d = true) : d ∈ V'.drains := by
  rw [h'.drain (ok.apply r)]
  have h1 := (h.drain ok).1 hd
  rw [apart_d, h1]
  unfold othr at ho
  simpa using ho
theorem apart_cnt {S : StD} (ok : OkS S) {r : RecD} (he : errS S r = 0) {V V' : VwD} (h : IsView S V) (h' : IsView (applyS S r) V') : V.drains.countP (othr r) ≤ V'.drains.length ∧ V'.drains.length ≤ V.drains.countP (othr r) + 1 := by
  have h1 := apart_n ok he
  rw [h'.dp.length_eq, h.dp.countP_eq]
  have e : (fun p : Int × Int => decide ((r.kind = 1 ∨ r.kind = 2) ∨ p.1 ≠ r.back)) = othr r := by
    funext p
    unfold othr
    rw [Bool.decide_or]
  rw [e] at h1
  exact h1
theorem count_take {α : Type} (p : α → Bool) {l : List α} {k : Nat} (h : k < l.length) : (l.take (k + 1)).countP p = (l.take k).countP p + (if p l[k] = true then 1 else 0) := by
  rw [List.take_add_one, List.getElem?_eq_getElem h, List.countP_append]
  simp [List.countP_cons]
/-- is it among them? -/
def memD (d : Int × Int) (l : List (Int × Int)) : Bool := l.any fun x => decide (x = d)
theorem memD_take {l : List (Int × Int)} {k : Nat} (d : Int × Int) (h : k < l.length) : memD d (l.take (k + 1)) = (memD d (l.take k) || decide (l[k] = d)) := by
  unfold memD
  rw [show l.take (k + 1) = l.take k ++ [l[k]] by rw [List.take_add_one, List.getElem?_eq_getElem h]; rfl, List.any_append, List.any_cons, List.any_nil, Bool.or_false]
theorem memD_in {l : List (Int × Int)} {d : Int × Int} (h : d ∈ l) : memD d l = true := by
  unfold memD
  rw [List.any_eq_true]
  exact ⟨d, h, decide_eq_true rfl⟩
end Go.Proofs.YtdabbkkjmmbigaaGreat
