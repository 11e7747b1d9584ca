
/-
  Maps whose keys are pointers to files.
-/
import Derived.Test.YthdjdfdefibepaaRkU
import Derived.LaidEqlPtr
namespace Go.Proofs.Ythdjdfdefibepaa
open Go.RowKit Go.ChangeShapes Go.WideShapes Go.ChangeAt Go.Deep Go.MapKept Go.Maps Go.ChangeMaps
set_option linter.unusedVariables false

/-- keys that can be told from each other in a world -/
structure KeyW (P : Program) (k : TypeId) {κ : Type} (ek : κ → Value) (w : World) (V : κ → Prop) : Prop where
  inj : ∀ {a b : κ}, ek a = ek b → a = b
  check : ∀ (em : Bool) (x : κ), (Instr.checkKey em 10000 k (ek x)).run P w = .ok () w
  find : ∀ (x : κ), V x → ∀ (es : List MapEntry), (∀ e ∈ es, ∃ y, e.key = ek y ∧ V y) →
    ((Instr.findKey k (ek x) es).run P w = .ok none w ∧ ∀ e ∈ es, e.key ≠ ek x) ∨ ∃ j e, (Instr.findKey k (ek x) es).run P w = .ok (some (j, e.val)) w ∧ es[j]? = some e ∧ e.key = ek x
  stays : ∀ (x : κ), (Instr.keyThatStays (ek x) (ek x)).run P w = .ok (ek x) w
section
variable {κ ν : Type} {ek : κ → Value} {ev : ν → Value} {P : Program} {k t e : TypeId} {w w' : World} {b r : Nat} {m left : List (κ × ν)}
variable {V : κ → Prop}
theorem MapB.seekW [DecidableEq κ] (K : KeyW P k ek w V) (hv : ∀ p ∈ m, V p.1) {es : Array MapEntry} (he : es.toList.map (fun e => (e.key, e.val)) = m.map (fun p => (ek p.1, ev p.2))) (hn : (m.map (·.1)).Nodup) (x : κ) (hx : V x) :
    ((Instr.findKey k (ek x) es.toList).run P w = .ok none w ∧ getM m x = none) ∨ ∃ (j : Nat) (v : ν) (e0 : MapEntry), (Instr.findKey k (ek x) es.toList).run P w = .ok (some (j, ev v)) w ∧ es.toList[j]? = some e0 ∧ e0.key = ek x ∧ m[j]? = some (x, v) ∧ getM m x = some v := by
  rcases K.find x hx es.toList (fun e hm => by
    obtain ⟨j, hj⟩ := List.getElem?_of_mem hm
    obtain ⟨p, hp, h1, _⟩ := ent_at he hj
    exact ⟨p.1, h1, hv p (List.mem_of_getElem? hp)⟩) with ⟨h1, h2⟩ | ⟨j, e0, h1, h2, h3⟩
  · refine Or.inl ⟨h1, getM_none.2 fun p hp e => ?_⟩
    obtain ⟨y, hy, h4, _⟩ := ent_mem he hp
    exact h2 y hy (by rw [h4, e])
  · obtain ⟨⟨y, v⟩, hp, h4, h5⟩ := ent_at he h2
    obtain rfl : y = x := K.inj (h4.symm.trans h3)
    exact Or.inr ⟨j, v, e0, by rw [h1, h5], h2, h3, hp, getM_of_mem hn (List.mem_of_getElem? hp)⟩
theorem MapB.lookW [DecidableEq κ] (h : MapB ek ev w b m) (K : KeyW P k ek w V) (hv : ∀ p ∈ m, V p.1) (ht : P.underlying t = some (.map k e)) {z : Value} (hz : (zeroValue e).run P w = .ok z w) (c : Bool) (x : κ) (hx : V x) :
    (Instr.lookup t (.map (some b)) (ek x) c).run P w = .ok (if c then .tuple #[((getM m x).map ev).getD z, .bool (getM m x).isSome] else ((getM m x).map ev).getD z) w := by
  obtain ⟨⟨es, clock, hb, he, _, _⟩, hn⟩ := h
  rcases MapB.seekW (w := w) (P := P) K hv he hn x hx with ⟨h1, h2⟩ | ⟨j, v, e0, h1, _, _, _, h2⟩
  · simp [Instr.lookup, run_underlying ht, MapKept.run_getObj_map hb, K.check _ x, h1, h2, hz, Result.andThen]
  · simp [Instr.lookup, run_underlying ht, MapKept.run_getObj_map hb, K.check _ x, h1, h2, Result.andThen]
theorem MapB.putW [DecidableEq κ] (h : MapB ek ev w b m) (K : KeyW P k ek w V) (hv : ∀ p ∈ m, V p.1) (ht : P.underlying t = some (.map k e)) (x : κ) (hx : V x) (v : ν) :
    ∃ w', (Instr.mapUpdate t (.map (some b)) (ek x) (ev v)).run P w = .ok () w' ∧ MapB ek ev w' b (putM m x v) ∧ Kept [b] w w' := by
  have hl := h.lt
  obtain ⟨⟨es, clock, hb, he, hc, hd⟩, hn⟩ := h
  rcases MapB.seekW (w := w) (P := P) K hv he hn x hx with ⟨h1, h2⟩ | ⟨j, v0, e0, h1, hj0, hk0, hj, h2⟩
  · refine ⟨setBlock w b (.map (es.push { key := ek x, val := ev v, born := clock }) (clock + 1)), ?_, ⟨⟨_, _, heap_set_same hl, ?_, ?_, ?_⟩, put_nodup hn x v⟩, kept_set hl⟩
    · simp [Instr.mapUpdate, run_underlying ht, MapKept.run_getObj_map hb, K.check _ x, h1, MapKept.run_setObj_map _ hb, Result.andThen, setBlock]
    · unfold putM
      rw [h2, Option.isSome_none, if_neg (by simp), Array.toList_push, List.map_append, List.map_append, he]; rfl
    · intro y hy
      rw [Array.toList_push, List.mem_append] at hy
      rcases hy with hy | hy
      · have := hc y hy; omega
      · obtain rfl : y = _ := by simpa using hy
        exact Nat.lt_succ_self _
    · rw [Array.toList_push, List.map_append, List.nodup_append]
      refine ⟨hd, by simp, fun a ha c hc' => ?_⟩
      obtain ⟨y, hy, rfl⟩ := List.mem_map.1 ha
      obtain rfl : c = clock := by simpa using hc'
      have := hc y hy
      omega
  · have hlt : j < es.size := by have := (List.getElem?_eq_some_iff.1 hj0).1; simpa using this
    have hjx : es[j]? = some e0 := by rw [← Array.getElem?_toList]; exact hj0
    refine ⟨setBlock w b (.map (es.modify j fun y => { y with key := ek x, val := ev v }) clock), ?_, ⟨⟨_, _, heap_set_same hl, ?_, ?_, ?_⟩, put_nodup hn x v⟩, kept_set hl⟩
    · simp [Instr.mapUpdate, run_underlying ht, MapKept.run_getObj_map hb, K.check _ x, h1, hjx, hk0, K.stays x, MapKept.run_setObj_map _ hb, Result.andThen, setBlock]
    · rw [put_set hn hj, List.map_set, ← he]
      apply List.ext_getElem?
      intro i
      rw [List.getElem?_map, Array.getElem?_toList, Array.getElem?_modify, List.getElem?_set, List.length_map, List.getElem?_map, Array.getElem?_toList]
      by_cases hi : j = i
      · subst hi
        rw [if_pos rfl, if_pos rfl, if_pos (by simpa using hlt), Array.getElem?_eq_getElem hlt]; rfl
      · rw [if_neg hi, if_neg hi]
    · intro y hy
      obtain ⟨i, hi⟩ := List.getElem?_of_mem hy
      rw [Array.getElem?_toList, Array.getElem?_modify] at hi
      split at hi
      · rw [Option.map_eq_some_iff] at hi
        obtain ⟨z, hz, rfl⟩ := hi
        exact hc z (by rw [← Array.getElem?_toList] at hz; exact List.mem_of_getElem? hz)
      · exact hc y (by rw [← Array.getElem?_toList] at hi; exact List.mem_of_getElem? hi)
    · have : ((es.modify j fun y => { y with key := ek x, val := ev v }).toList.map (·.born)) = es.toList.map (·.born) := by
        apply List.ext_getElem?
        intro i
        rw [List.getElem?_map, List.getElem?_map, Array.getElem?_toList, Array.getElem?_toList, Array.getElem?_modify]
        split
        · cases es[i]? <;> rfl
        · rfl
      rw [this]; exact hd
end
def ekP (o : Option Nat) : Value := .pointer (o.map fun g => ⟨g, 0, none⟩)
def evP (g : Nat) : Value := .pointer (some ⟨g, 0, none⟩)
def FileV (w : World) (o : Option Nat) : Prop := ∀ g, o = some g → ∃ cs, Blk w g 71 cs
theorem ekP_inj {a b : Option Nat} (h : ekP a = ekP b) : a = b := by
  cases a <;> cases b <;> simp [ekP] at h ⊢
  exact h
theorem eqP_run {w : World} {a b : Option Nat} (ha : FileV w a) (hb : FileV w b) : (Op.equal 69 (ekP a) (ekP b)).run Try.prog w = .ok (decide (a = b)) w := by
  have hp := Try.underlying69
  have hi : ∃ j, Try.prog.info? 71 = some j ∧ j.size ≠ 0 := by
    have h0 : (Try.prog.info? 71).map (·.size) = some 2 := by kernel_rfl
    cases h : Try.prog.info? 71 with
    | none => rw [h] at h0; cases h0
    | some j =>
      rw [h] at h0
      have h1 : j.size = 2 := by injection h0
      exact ⟨j, rfl, by omega⟩
  obtain ⟨j, hj, hs⟩ := hi
  have key : ∀ d : Nat, (Op.equalIn (d + 1) 69 (ekP a) (ekP b)).run Try.prog w = .ok (decide (a = b)) w := fun d => by
    cases a with
    | none =>
      cases b with
      | none => simp [ekP, Op.equalIn, run_underlying hp]
      | some g => simp [ekP, Op.equalIn, run_underlying hp]
    | some g =>
      cases b with
      | none => simp [ekP, Op.equalIn, run_underlying hp]
      | some g' =>
        by_cases e : g = g'
        · subst e
          simp [ekP, Op.equalIn, run_underlying hp, sizeOf, typeInfo, hj, run_sameAddr_same]
        · obtain ⟨ca, h1⟩ := ha g rfl
          obtain ⟨cb, h2⟩ := hb g' rfl
          have hne : (⟨g, 0, none⟩ : Addr) ≠ ⟨g', 0, none⟩ := fun h => e (by injection h)
          have := run_sameAddr_other (P := Try.prog) w hne h1 h2
          simp [ekP, Op.equalIn, run_underlying hp, sizeOf, typeInfo, hj, hs, this, e]
  exact key 9999
theorem findP {w : World} {o : Option Nat} (ho : FileV w o) : ∀ (es : List MapEntry) (i : Nat), (∀ e ∈ es, ∃ y, e.key = ekP y ∧ FileV w y) →
    ((Instr.findAsking 69 (ekP o) es i).run Try.prog w = .ok none w ∧ ∀ e ∈ es, e.key ≠ ekP o) ∨ ∃ j e, (Instr.findAsking 69 (ekP o) es i).run Try.prog w = .ok (some (i + j, e.val)) w ∧ es[j]? = some e ∧ e.key = ekP o
  | [], i, _ => .inl ⟨rfl, by simp⟩
  | e :: es, i, h => by
    obtain ⟨y, hy, hv⟩ := h e (by simp)
    have heq := eqP_run ho hv
    by_cases hs : o = y
    · subst hs
      refine .inr ⟨0, e, ?_, rfl, hy⟩
      unfold Instr.findAsking
      simp [hy, heq, Result.andThen]
    · have hne : e.key ≠ ekP o := fun q => hs (ekP_inj (q.symm.trans hy))
      rcases findP ho es (i + 1) (fun x hx => h x (by simp [hx])) with ⟨h1, h2⟩ | ⟨j, x, h1, h2, h3⟩
      · refine .inl ⟨?_, fun x hx => ?_⟩
        · unfold Instr.findAsking
          simp [hy, heq, hs, h1, Result.andThen]
        · rcases List.mem_cons.1 hx with rfl | hx
          · exact hne
          · exact h2 x hx
      · refine .inr ⟨j + 1, x, ?_, by simpa using h2, h3⟩
        unfold Instr.findAsking
        simp [hy, heq, hs, h1, Result.andThen]
        omega
theorem ekP_key (w : World) : KeyW Try.prog 69 ekP w (FileV w) where
  inj := ekP_inj
  check em o := by
    have hp := Try.underlying69
    have key : ∀ d : Nat, (Instr.checkKey em (d + 1) 69 (ekP o)).run Try.prog w = .ok () w := fun d => by
      unfold Instr.checkKey
      simp [run_underlying hp, ekP]
    exact key 9999
  find o ho es hes := by
    have e : (Instr.findKey 69 (ekP o) es).run Try.prog w = (Instr.findAsking 69 (ekP o) es 0).run Try.prog w := by
      unfold Instr.findKey
      have h1 := Try.underlying69
      cases es with
      | nil => simp [run_underlying h1, Instr.findNow, Instr.findAsking]
      | cons y es => simp [run_underlying h1, Instr.findNow, Instr.sameNow]
    rw [e]
    have := findP ho es 0 hes
    simpa using this
  stays o := by
    have key : ∀ d : Nat, Instr.sameBits d (ekP o) (ekP o) = true := fun d => by
      unfold Instr.sameBits
      simp [ekP]
    have hb : Instr.sameBits 10000 (ekP o) (ekP o) = true := key 10000
    unfold Instr.keyThatStays
    rw [hb]
    rfl
end Go.Proofs.Ythdjdfdefibepaa
