
/-
  StateLast: what the walk holds.
-/
import Derived.Test.YtdabbkkjmmbigaaGreatStM
import Derived.Test.YtdabbkkjmmbigaaGreatStN
import Derived.Test.YtdabbkkjmmbigaaGreatStW
section
namespace Go.Proofs.YtdabbkkjmmbigaaGreat
open Go.RowKit
set_option linter.unusedVariables false

/-- which is the last record of a tuple, the last of the set -/
def lastK (k : TupD) (S : StD) (last r : RecD) : RecD := if errS S r = 0 ∧ (r.kind = 1 ∨ r.kind = 2) ∧ r.tup = k then r else last
def lastG (S : StD) (gen r : RecD) : RecD := if errS S r = 0 ∧ r.kind = 3 then r else gen
structure LastI (k : TupD) (S : StD) (last gen : RecD) : Prop where
  ok : OkS S
  g : S.gen = gen.gen
  b : S.backs = gen.backs
  f : getM S.flows k = if last.kind = 1 then some (flowR last) else none
theorem LastI.new (k : TupD) : LastI k newS (default : RecD) (default : RecD) := ⟨OkS.new, rfl, rfl, rfl⟩
theorem apply_gen (S : StD) (r : RecD) : (applyS S r).gen = if errS S r = 0 ∧ r.kind = 3 then r.gen else S.gen := by
  unfold applyS doneS
  by_cases he : errS S r = 0 <;> by_cases h1 : r.kind = 1 <;> by_cases h2 : r.kind = 2 <;> by_cases h3 : r.kind = 3 <;> by_cases h4 : r.kind = 4 <;> by_cases h5 : r.kind = 5 <;> first | omega | simp [he, h1, h2, h3, h4, h5]
theorem apply_backs (S : StD) (r : RecD) : (applyS S r).backs = if errS S r = 0 ∧ r.kind = 3 then r.backs else S.backs := by
  unfold applyS doneS
  by_cases he : errS S r = 0 <;> by_cases h1 : r.kind = 1 <;> by_cases h2 : r.kind = 2 <;> by_cases h3 : r.kind = 3 <;> by_cases h4 : r.kind = 4 <;> by_cases h5 : r.kind = 5 <;> first | omega | simp [he, h1, h2, h3, h4, h5]
theorem apply_flows (S : StD) (r : RecD) : (applyS S r).flows = if errS S r = 0 then (if r.kind = 1 then putM S.flows r.tup (flowR r) else if r.kind = 2 then delM S.flows r.tup else S.flows) else S.flows := by
  unfold applyS doneS
  by_cases he : errS S r = 0 <;> by_cases h1 : r.kind = 1 <;> by_cases h2 : r.kind = 2 <;> by_cases h3 : r.kind = 3 <;> by_cases h4 : r.kind = 4 <;> by_cases h5 : r.kind = 5 <;> first | omega | simp [he, h1, h2, h3, h4, h5]
theorem apply_drains (S : StD) (r : RecD) : (applyS S r).drains = if errS S r = 0 then (if r.kind = 4 then putM S.drains r.back r.until_ else if r.kind = 5 then delM S.drains r.back else S.drains) else S.drains := by
  unfold applyS doneS
  by_cases he : errS S r = 0 <;> by_cases h1 : r.kind = 1 <;> by_cases h2 : r.kind = 2 <;> by_cases h3 : r.kind = 3 <;> by_cases h4 : r.kind = 4 <;> by_cases h5 : r.kind = 5 <;> first | omega | simp [he, h1, h2, h3, h4, h5]
theorem LastI.step {k : TupD} {S : StD} {last gen : RecD} (h : LastI k S last gen) (r : RecD) : LastI k (applyS S r) (lastK k S last r) (lastG S gen r) := by
  refine ⟨h.ok.apply r, ?_, ?_, ?_⟩
  · rw [apply_gen, h.g]; unfold lastG; split <;> rfl
  · rw [apply_backs, h.b]; unfold lastG; split <;> rfl
  · rw [apply_flows]
    have e1 : ∀ hc : errS S r = 0 ∧ (r.kind = 1 ∨ r.kind = 2) ∧ r.tup = k, lastK k S last r = r := fun hc => if_pos hc
    have e2 : ∀ hc : ¬ (errS S r = 0 ∧ (r.kind = 1 ∨ r.kind = 2) ∧ r.tup = k), lastK k S last r = last := fun hc => if_neg hc
    by_cases he : errS S r = 0
    · rw [if_pos he]
      by_cases h1 : r.kind = 1
      · rw [if_pos h1, getM_put, h.f]
        by_cases ht : r.tup = k
        · rw [if_pos ht, e1 ⟨he, .inl h1, ht⟩, if_pos h1]
        · rw [if_neg ht, e2 (fun hc => ht hc.2.2)]
      · rw [if_neg h1]
        by_cases h2 : r.kind = 2
        · rw [if_pos h2, getM_del, h.f]
          by_cases ht : r.tup = k
          · rw [if_pos ht, e1 ⟨he, .inr h2, ht⟩, if_neg h1]
          · rw [if_neg ht, e2 (fun hc => ht hc.2.2)]
        · rw [if_neg h2, e2 (fun hc => hc.2.1.elim h1 h2), h.f]
    · rw [if_neg he, e2 (fun hc => he hc.1), h.f]
/-- what a record of no set leaves -/
theorem apart_g {S : StD} {r : RecD} (h3 : r.kind ≠ 3) : (applyS S r).gen = S.gen ∧ (applyS S r).backs = S.backs :=
  ⟨by rw [apply_gen, if_neg (fun hc => h3 hc.2)], by rw [apply_backs, if_neg (fun hc => h3 hc.2)]⟩
theorem apart_f {S : StD} {r : RecD} (k : TupD) (h : ¬ (r.kind = 1 ∨ r.kind = 2) ∨ k ≠ r.tup) : getM (applyS S r).flows k = getM S.flows k := by
  rw [apply_flows]
  split
  · split
    · rename_i h1
      rw [getM_put, if_neg (fun e => (h.resolve_left (fun hn => hn (.inl h1))) e.symm)]
    · split
      · rename_i h2
        rw [getM_del, if_neg (fun e => (h.resolve_left (fun hn => hn (.inr h2))) e.symm)]
      · rfl
  · rfl
theorem apart_d {S : StD} {r : RecD} (k : Int) (h : (r.kind = 1 ∨ r.kind = 2) ∨ k ≠ r.back) : getM (applyS S r).drains k = getM S.drains k := by
  rw [apply_drains]
  split
  · split
    · rename_i h4
      rw [getM_put, if_neg (fun e => (h.resolve_left (fun hn => by omega)) e.symm)]
    · split
      · rename_i h5
        rw [getM_del, if_neg (fun e => (h.resolve_left (fun hn => by omega)) e.symm)]
      · rfl
  · rfl
theorem sorted_one {α : Type} {R : α → α → Prop} (hi : ∀ a b, R a b → R b a → False) : ∀ {l l' : List α}, l.Perm l' → l.Pairwise R → l'.Pairwise R → l = l'
  | [], l', h, _, _ => (List.nil_perm.1 h).symm
  | a :: t, [], h, _, _ => absurd h.length_eq (by simp)
  | a :: t, b :: t', h, h1, h2 => by
    have ha : a ∈ b :: t' := h.mem_iff.1 (by simp)
    have hb : b ∈ a :: t := h.mem_iff.2 (by simp)
    have e : a = b := by
      rcases List.mem_cons.1 ha with e | ha
      · exact e
      · rcases List.mem_cons.1 hb with e | hb
        · exact e.symm
        · exact (hi a b ((List.pairwise_cons.1 h1).1 b hb) ((List.pairwise_cons.1 h2).1 a ha)).elim
    subst e
    rw [sorted_one hi (List.Perm.cons_inv h) (List.pairwise_cons.1 h1).2 (List.pairwise_cons.1 h2).2]
/-- how many drains another record leaves -/
theorem left_del {m : List (Int × Int)} (x : Int) : (delM m x).length = m.countP fun p => decide (p.1 ≠ x) := by
  unfold delM
  rw [List.countP_eq_length_filter]
  simp
theorem nodup_count : ∀ {m : List (Int × Int)} (x : Int), (m.map (·.1)).Nodup → (m.countP fun p => decide (p.1 ≠ x)) + (if (getM m x).isSome then 1 else 0) = m.length
  | [], x, _ => rfl
  | p :: m, x, h => by
    rw [List.map_cons, List.nodup_cons] at h
    have ih := nodup_count x h.2
    rw [getM_cons, List.countP_cons, List.length_cons]
    by_cases hx : p.1 = x
    · have hn : getM m x = none := getM_none.2 fun q hq e => h.1 (by rw [hx, ← e]; exact List.mem_map_of_mem hq)
      rw [hn] at ih
      simp [hx] at ih ⊢
      omega
    · simp [hx] at ih ⊢
      omega
theorem apart_n {S : StD} (ok : OkS S) {r : RecD} (he : errS S r = 0) :
    (S.drains.countP fun p => decide ((r.kind = 1 ∨ r.kind = 2) ∨ p.1 ≠ r.back)) ≤ (applyS S r).drains.length ∧ (applyS S r).drains.length ≤ (S.drains.countP fun p => decide ((r.kind = 1 ∨ r.kind = 2) ∨ p.1 ≠ r.back)) + 1 := by
  have hc := nodup_count r.back ok.nd
  rw [apply_drains, if_pos he]
  by_cases hf : r.kind = 1 ∨ r.kind = 2
  · have e : (S.drains.countP fun p => decide ((r.kind = 1 ∨ r.kind = 2) ∨ p.1 ≠ r.back)) = S.drains.length := by simp [hf]
    rw [e, if_neg (by omega), if_neg (by omega)]
    omega
  · have e : (S.drains.countP fun p => decide ((r.kind = 1 ∨ r.kind = 2) ∨ p.1 ≠ r.back)) = S.drains.countP fun p => decide (p.1 ≠ r.back) := by simp [hf]
    have hd := left_del (m := S.drains) r.back
    rw [e]
    generalize (S.drains.countP fun p => decide (p.1 ≠ r.back)) = n at *
    by_cases h4 : r.kind = 4
    · rw [if_pos h4, put_len]
      split at hc <;> rename_i hs <;> simp [hs] <;> omega
    · rw [if_neg h4]
      by_cases h5 : r.kind = 5
      · rw [if_pos h5, hd]
        omega
      · rw [if_neg h5]
        split at hc <;> omega
end Go.Proofs.YtdabbkkjmmbigaaGreat
end

section
namespace Go.Proofs.YtdabbkkjmmbigaaGreat
open Go.RowKit Go.ChangeShapes Go.WideShapes Go.ChangeAt Go.Deep Go.MapKept
set_option linter.unusedVariables false

/-- what is written into a block that is no state's leaves a state -/
theorem StAt.far {W w w' : World} {p bd bf : Nat} {A : Option Addr} {m c : Nat} {S : StD} (h : StAt W w p bd bf A m c S) {g : Nat} {t : TypeId} {cs : Array Value} (hb : Blk w g t cs) (h1 : t ≠ 63) (h2 : 55 ≠ t) (hg : W.heap.size ≤ g) (hk : Kept [g] w w') : StAt W w' p bd bf A m c S :=
  ⟨h.blk.kept hk (by simpa using fun e => (hb.ne h.blk h1) e.symm), h.md.kept hk (by simpa using h.md.ne_blk hb), h.mf.kept hk (by simpa using h.mf.ne_blk hb), BkV.far h.bk hk hb h2 hg, h.hp, h.hd, h.hf, h.ne⟩
theorem StB.far {W w w' : World} {p : Nat} {S : StD} (h : StB W w p S) {g : Nat} {t : TypeId} {cs : Array Value} (hb : Blk w g t cs) (h1 : t ≠ 63) (h2 : 55 ≠ t) (hg : W.heap.size ≤ g) (hk : Kept [g] w w') : StB W w' p S := by
  obtain ⟨bd, bf, A, m, c, h⟩ := h
  exact ⟨bd, bf, A, m, c, h.far hb h1 h2 hg hk⟩
/-- a record applied: what Apply owes to one who holds blocks of his own -/
theorem apply_own {W w : World} {p : Nat} {S : StD} (h : StB W w p S) (ok : OkS S) {G : List Nat} {A' : Option Addr} {m' c' : Nat} (r : RecD) (hr : SmallB w G A' m' c' r.backs) :
    Calls Tryz.prog 11 #[.pointer (some ⟨p, 0, none⟩), .agg #[.int .i64 r.kind, .int .u32 (r.tup.src.toNat : Nat), .int .u32 (r.tup.dst.toNat : Nat), .int .i64 r.tup.proto, .int .i64 r.tup.sport, .int .i64 r.tup.dport, .int .i64 r.fb, .int .i64 r.fg, .int .i64 r.fs, .int .i64 r.gen, .slice A' m' c', .int .i64 r.back, .int .i64 r.until_, .int .i64 r.count]] w fun e w' => e = .returned (.int .i64 (errS S r)) ∧ StB W w' p (applyS S r) ∧ w.heap.size ≤ w'.heap.size ∧ ∀ g t cs, Blk w g t cs → t ≠ 63 → Blk w' g t cs := by
  obtain ⟨bd, bf, A, m, c, h⟩ := h
  refine (Apply_any h ok r hr).mono ?_
  rintro e w' ⟨rfl, hk, A, m, c, hs⟩
  exact ⟨rfl, ⟨_, _, _, _, _, hs⟩, hk.size, fun g t cs hb ht => apply_blk h hk hb ht⟩
/-- the walk's blocks -/
structure LastW (w wr : World) (p g3 g6 g7 : Nat) (k : TupD) (S : StD) (last gen : RecD) : Prop where
  st : StB w wr p S
  bk : Blk wr g3 40 #[.int .u32 (k.src.toNat : Nat), .int .u32 (k.dst.toNat : Nat), .int .i64 k.proto, .int .i64 k.sport, .int .i64 k.dport]
  bl : ∃ A m c, Blk wr g6 45 #[.int .i64 last.kind, .int .u32 (last.tup.src.toNat : Nat), .int .u32 (last.tup.dst.toNat : Nat), .int .i64 last.tup.proto, .int .i64 last.tup.sport, .int .i64 last.tup.dport, .int .i64 last.fb, .int .i64 last.fg, .int .i64 last.fs, .int .i64 last.gen, .slice A m c, .int .i64 last.back, .int .i64 last.until_, .int .i64 last.count]
  bg : ∃ A m c, m = gen.backs.length ∧ Blk wr g7 45 #[.int .i64 gen.kind, .int .u32 (gen.tup.src.toNat : Nat), .int .u32 (gen.tup.dst.toNat : Nat), .int .i64 gen.tup.proto, .int .i64 gen.tup.sport, .int .i64 gen.tup.dport, .int .i64 gen.fb, .int .i64 gen.fg, .int .i64 gen.fs, .int .i64 gen.gen, .slice A m c, .int .i64 gen.back, .int .i64 gen.until_, .int .i64 gen.count]
  h6 : w.heap.size ≤ g6
  h7 : w.heap.size ≤ g7
  ne : g6 ≠ g7
theorem LastW.go {w wr w' : World} {p g3 g6 g7 : Nat} {k : TupD} {S : StD} {last gen : RecD} (h : LastW w wr p g3 g6 g7 k S last gen) (hk : Kept [] wr w') : LastW w w' p g3 g6 g7 k S last gen := by
  obtain ⟨st, bk, ⟨A, m, c, bl⟩, ⟨A2, m2, c2, hm, bg⟩, h6, h7, ne⟩ := h
  exact ⟨st.go hk, bk.kept hk (by simp), ⟨A, m, c, bl.kept hk (by simp)⟩, ⟨A2, m2, c2, hm, bg.kept hk (by simp)⟩, h6, h7, ne⟩
theorem LastW.applied {w wr w' : World} {p g3 g6 g7 : Nat} {k : TupD} {S S' : StD} {last gen : RecD} (h : LastW w wr p g3 g6 g7 k S last gen) (hs : StB w w' p S') (hb : ∀ g t cs, Blk wr g t cs → t ≠ 63 → Blk w' g t cs) : LastW w w' p g3 g6 g7 k S' last gen := by
  obtain ⟨st, bk, ⟨A, m, c, bl⟩, ⟨A2, m2, c2, hm, bg⟩, h6, h7, ne⟩ := h
  exact ⟨hs, hb _ _ _ bk (by decide), ⟨A, m, c, hb _ _ _ bl (by decide)⟩, ⟨A2, m2, c2, hm, hb _ _ _ bg (by decide)⟩, h6, h7, ne⟩
set_option maxRecDepth 100000 in
theorem LastW.putL {w wr w' : World} {p g3 g6 g7 : Nat} {k : TupD} {S : StD} {last gen r : RecD} {A' : Option Addr} {m' c' : Nat} (h : LastW w wr p g3 g6 g7 k S last gen) (hb : Blk w' g6 45 #[.int .i64 r.kind, .int .u32 (r.tup.src.toNat : Nat), .int .u32 (r.tup.dst.toNat : Nat), .int .i64 r.tup.proto, .int .i64 r.tup.sport, .int .i64 r.tup.dport, .int .i64 r.fb, .int .i64 r.fg, .int .i64 r.fs, .int .i64 r.gen, .slice A' m' c', .int .i64 r.back, .int .i64 r.until_, .int .i64 r.count]) (hk : Kept [g6] wr w') : LastW w w' p g3 g6 g7 k S r gen := by
  obtain ⟨st, bk, ⟨A, m, c, bl⟩, ⟨A2, m2, c2, hm, bg⟩, h6, h7, ne⟩ := h
  exact ⟨st.far bl (by decide) (by decide) h6 hk, bk.kept hk (by simpa using bk.ne bl (by decide)), ⟨A', m', c', hb⟩, ⟨A2, m2, c2, hm, bg.kept hk (by simpa using fun e => ne e.symm)⟩, h6, h7, ne⟩
set_option maxRecDepth 100000 in
theorem LastW.putG {w wr w' : World} {p g3 g6 g7 : Nat} {k : TupD} {S : StD} {last gen r : RecD} {A' : Option Addr} {m' c' : Nat} (h : LastW w wr p g3 g6 g7 k S last gen) (hm' : m' = r.backs.length) (hb : Blk w' g7 45 #[.int .i64 r.kind, .int .u32 (r.tup.src.toNat : Nat), .int .u32 (r.tup.dst.toNat : Nat), .int .i64 r.tup.proto, .int .i64 r.tup.sport, .int .i64 r.tup.dport, .int .i64 r.fb, .int .i64 r.fg, .int .i64 r.fs, .int .i64 r.gen, .slice A' m' c', .int .i64 r.back, .int .i64 r.until_, .int .i64 r.count]) (hk : Kept [g7] wr w') : LastW w w' p g3 g6 g7 k S last r := by
  obtain ⟨st, bk, ⟨A, m, c, bl⟩, ⟨A2, m2, c2, hm, bg⟩, h6, h7, ne⟩ := h
  exact ⟨st.far bg (by decide) (by decide) h7 hk, bk.kept hk (by simpa using bk.ne bg (by decide)), ⟨A, m, c, bl.kept hk (by simpa using ne)⟩, ⟨A', m', c', hm', hb⟩, h6, h7, ne⟩
end Go.Proofs.YtdabbkkjmmbigaaGreat
end
