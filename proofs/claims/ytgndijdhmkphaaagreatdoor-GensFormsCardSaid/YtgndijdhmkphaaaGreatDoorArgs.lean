/-
  Arguments of a law, opened: slices of bytes, of structs; that they read behind the call as before; how large they are.
-/
import Derived.ProofKit
import Derived.OpenShut
import Derived.JoinedCond
import Derived.Deep.Slices
import Derived.SizedLaws
import Derived.Test.YtgndijdhmkphaaaGreatDoorOctR
namespace Go.Proofs.YtgndijdhmkphaaaGreatDoor
set_option linter.unusedVariables false
section
open Go.RowKit Go.ChangeShapes Go.WideShapes Go.ChangeAt Go.Deep
set_option maxRecDepth 100000
theorem laidOut : laidOutB Tryz.prog = true := by kernel_rfl
theorem own_knob : ownKnob Tryz.prog.godebug = none := by kernel_rfl
theorem trodAll_below {H : Type} {enc : TypeId × Value → H} {P : Program} {W W' : World} (hl : laidOutB P = true) (hb : Below W.heap.size W W') :
    ∀ {ts : List TypeId} {vs : List Value} {ds : List (DataW H)} {ps : List MemPlace}, (∀ t ∈ ts, P.readableRec t = true ∧ t < P.types.size) → DataW.TrodAll enc P W 0 (fun _ => true) true ts vs ds ps → (∀ x ∈ ps, x.block < W.heap.size) →
      DataW.TrodAll enc P W' 0 (fun b => decide (b < W.heap.size)) true ts vs ds ps
  | [], [], [], _, _, h, _ => h
  | _ :: _, _ :: _, _ :: _, _, hT, ⟨p, q, h1, h2, e⟩, hs =>
    ⟨p, q, Below.trod hl (hT _ (by simp)).1 (hT _ (by simp)).2 h1 hb (fun x hx => hs x (by rw [e]; exact List.mem_append_left _ hx)),
      trodAll_below hl hb (fun t ht => hT t (by simp [ht])) h2 (fun x hx => hs x (by rw [e]; exact List.mem_append_right _ hx)), e⟩
theorem law_post {H : Type} {enc : TypeId × Value → H} {fn : Func} {s : ChangeSpec} {W W' : World} {args : Array Value} {ds gs : List (DataW H)} {before : List MemPlace} (hv : s.vars = []) (hres : fn.resultTypes = #[4])
    (hT : (fn.params.toList.all fun t => Tryz.prog.readableRec t && decide (t < Tryz.prog.types.size)) = true)
    (hW : DataW.Whole enc Tryz.prog fn.params.toList s.vars false W args.toList ds gs before) (hs : s.fn H (ds ++ []) = { results := [.lit (.bool true)], args := ds }) (hb : Below W.heap.size W W') :
    ∃ v, Ending.returned (.bool true) = .returned v ∧ s.post enc Tryz.prog fn false true false false W args v W' := by
  have hlt := hW.lt
  have hW' := hW
  obtain ⟨p, q, hA, hV, rfl, hfz, hnd⟩ := hW
  rw [hv] at hV
  obtain ⟨rfl, rfl⟩ : gs = [] ∧ q = [] := by
    cases gs with
    | nil => exact ⟨rfl, hV⟩
    | cons g gs => exact hV.elim
  refine ⟨_, rfl, ds, [], _, [], p, [], hW', ?_, ?_, ?_, hb.frame _, fun h => by cases h⟩
  · rw [hs, hres]
    exact trodAll_cons_mk (shut_bool Tryz.underlying4 true) trodAll_mk0
  · rw [hs]
    refine trodAll_below laidOut hb (fun t ht => ?_) hA (fun x hx => hlt x (by simp [hx]))
    have := List.all_eq_true.1 hT t ht
    simpa using this
  · rw [hs, hv]
    rfl
abbrev old (w : World) : List Nat := List.range w.heap.size
section
variable {H : Type} {enc : TypeId × Value → H} {w : World}
theorem open_slice_at {t e : TypeId} {n : Nat} (ht : Tryz.prog.underlying t = some (.slice e)) (hn : Tryz.prog.cellsOf e = n) (hp : 0 < n) {fuel : Nat} {cs : List Value} {x : DataW H × List MemPlace} (h : DataW.trod enc Tryz.prog w 0 (fun _ => true) true fuel t cs = some x) :
    ∃ (A : Option Addr) (m c : Nat) (E : Nat → List Value) (D : Nat → DataW H), cs = [.slice A m c] ∧ m ≤ c ∧ c ≤ maxLen ∧ (A = none → m = 0 ∧ c = 0) ∧
      (0 < m → ∃ g o, A = some ⟨g, o, none⟩ ∧ g < w.heap.size ∧ ∀ i j, i < m → j < n → w.cell? ⟨g, o + (i * n + j), none⟩ = (E i)[j]?) ∧
      (∀ i, i < m → (E i).length = n ∧ ∃ fuel' ps, DataW.trod enc Tryz.prog w 0 (fun _ => true) true fuel' e (E i) = some (D i, ps)) ∧
      Rows.uptoBulkAll ((List.range m).map D) + 1 ≤ Rows.uptoBulk x.1 := by
  rcases open_slice ht h with ⟨rfl, rfl⟩ | ⟨a, len, cap, m, fu, D, Pl, rfl, _, hl, hm, hmm, rfl, hi⟩
  · exact ⟨none, 0, 0, fun _ => [], fun _ => .nil, rfl, by omega, by unfold maxLen; omega, by simp, by omega, by omega, by simp [Rows.uptoBulk, Rows.uptoBulkAll]⟩
  · simp only [if_true] at hmm
    subst hmm
    rw [hn] at hi
    have hi' : ∀ i, i < m → ∃ cs', (w.cells? 0 (a.add (i * n)) n = some cs') ∧ DataW.trod enc Tryz.prog w 0 (fun _ => true) true fu e cs' = some (D i, Pl i) := hi
    obtain ⟨E, hE⟩ := choose_lt hi'
    refine ⟨some a, len, m, E, D, rfl, hl, hm, by simp, fun h0 => ?_, fun i hlt => ?_, ?_⟩
    · have hc0 := (World.cells?_some (hE 0 (by omega)).1).2
      have hcell : ∀ i j, i < len → j < n → w.cell? (a.add (i * n + j)) = (E i)[j]? := fun i j h1 h2 => by
        rw [← add_add]; exact (World.cells?_some (hE i (by omega)).1).2.2 j h2
      have h00 := hcell 0 0 h0 hp
      have hx : (E 0)[0]? = some ((E 0)[0]'(by rw [hc0.1]; exact hp)) := List.getElem?_eq_getElem _
      rw [hx] at h00
      have hsp : a.spot = none := by
        simp only [Nat.zero_mul, Nat.add_zero, Addr.add, if_true] at h00
        unfold World.cell? at h00
        split at h00
        · split at h00
          · cases h00
          · rename_i hs; simpa using hs
        · cases h00
      have hb := World.block_lt_of_cell? w _ h00
      obtain ⟨g, o, sp⟩ := a
      simp only at hsp
      subst hsp
      refine ⟨g, o, rfl, by simpa [Addr.add] using hb, fun i j h1 h2 => ?_⟩
      rw [← Addr.add_lit]
      exact hcell i j h1 h2
    · exact ⟨(World.cells?_some (hE i (by omega)).1).2.1, fu, _, (hE i (by omega)).2⟩
    · simp only [Rows.uptoBulk]; omega
theorem list_of_dec {α : Type} [Inhabited α] {m : Nat} {E : Nat → List Value} {D : Nat → DataW H} {Dec : List Value → α → Prop} {bk : α → Nat} (h : ∀ i, i < m → ∃ a : α, Dec (E i) a ∧ bk a ≤ Rows.uptoBulk (D i)) :
    ∃ l : List α, l.length = m ∧ (∀ i a, l[i]? = some a → Dec (E i) a) ∧ (l.map bk).sum ≤ Rows.uptoBulkAll ((List.range m).map D) := by
  obtain ⟨f, hf⟩ := choose_lt h
  refine ⟨(List.range m).map f, by simp, fun i a hi => ?_, ?_⟩
  · have hlt : i < m := by have := (List.getElem?_eq_some_iff.1 hi).1; simpa using this
    have : a = f i := by simpa [hlt] using hi.symm
    rw [this]
    exact (hf i hlt).1
  · have : ∀ k, k ≤ m → (((List.range k).map f).map bk).sum ≤ Rows.uptoBulkAll ((List.range k).map D) := by
      intro k
      induction k with
      | zero => intro _; simp
      | succ k ih =>
        intro hk
        have h1 := ih (by omega)
        have h2 := (hf k (by omega)).2
        have happ : ∀ a b : List (DataW H), Rows.uptoBulkAll (a ++ b) = Rows.uptoBulkAll a + Rows.uptoBulkAll b := by
          intro a b
          induction a with
          | nil => simp [Rows.uptoBulkAll]
          | cons x a ih => simp only [List.cons_append, Rows.uptoBulkAll, ih]; omega
        simp only [List.range_succ, List.map_append, List.map_cons, List.map_nil, List.sum_append, List.sum_cons, List.sum_nil, happ, Rows.uptoBulkAll]
        omega
    exact this m (Nat.le_refl _)
end
def ArrOf {α : Type} (w : World) (G : List Nat) (n : Nat) (Dec : World → List Value → α → Prop) (v : Value) (l : List α) : Prop :=
  ∃ A m c, v = .slice A m c ∧ l.length = m ∧ m ≤ c ∧ c ≤ maxLen ∧ (A = none → m = 0 ∧ c = 0) ∧
    (l ≠ [] → ∃ g o, A = some ⟨g, o, none⟩ ∧ g ∈ G ∧ g < w.heap.size ∧ ∀ i a, l[i]? = some a → ∃ cs, cs.length = n ∧ Dec w cs a ∧ ∀ j, j < n → w.cell? ⟨g, o + (i * n + j), none⟩ = cs[j]?)
theorem ArrOf.kept {α : Type} {w w' : World} {G S : List Nat} {n : Nat} {Dec : World → List Value → α → Prop} {v : Value} {l : List α} (h : ArrOf w G n Dec v l) (hk : Kept S w w') (hd : ∀ k ∈ G, k ∉ S)
    (hD : ∀ cs a, Dec w cs a → Dec w' cs a) : ArrOf w' G n Dec v l := by
  obtain ⟨A, m, c, h1, h2, h3, h4, h5, h6⟩ := h
  refine ⟨A, m, c, h1, h2, h3, h4, h5, fun hne => ?_⟩
  obtain ⟨g, o, e1, e2, e3, e4⟩ := h6 hne
  refine ⟨g, o, e1, e2, Nat.lt_of_lt_of_le e3 hk.size, fun i a hi => ?_⟩
  obtain ⟨cs, f1, f2, f3⟩ := e4 i a hi
  exact ⟨cs, f1, hD _ _ f2, fun j hj => (hk.cell (p := ⟨g, _, none⟩) e3 (hd g e2)).trans (f3 j hj)⟩
structure CallD where
  to : Int
  n : Int
  raw : List UInt8
instance : Inhabited CallD := ⟨⟨0, 0, []⟩⟩
section
variable {H : Type} {enc : TypeId × Value → H} {w : World}
end
end
end Go.Proofs.YtgndijdhmkphaaaGreatDoor
