
/-
  States in memory: a record applied.
-/
import Derived.Test.YtdabbkkjmmbigaaGreatStC
import Derived.Test.YtdabbkkjmmbigaaGreatBkx
namespace Go.Proofs.YtdabbkkjmmbigaaGreat
open Go.RowKit Go.ChangeShapes Go.WideShapes Go.ChangeAt Go.Deep Go.MapKept
set_option linter.unusedVariables false

theorem BkV.farM {κ ν : Type} {ek : κ → Value} {ev : ν → Value} {mm : List (κ × ν)} {W w w' : World} {b : Nat} {sl : Value} {l : List BackD} (h : BkV W w sl l) (hk : Kept [b] w w') (hb : MapB ek ev w b mm) (hg : W.heap.size ≤ b) : BkV W w' sl l := by
  obtain ⟨css, G, hx⟩ := h
  refine ⟨css, [], hx.own.kept hk (fun k hk' hm => ?_), hx.new, ⟨hx.decs.1, hx.decs.2⟩, by simp, hx.keptW.trans hk (fun k hk' => .inr (by simp at hk'; omega))⟩
  simp at hm
  subst hm
  obtain ⟨⟨es, clock, h1, _⟩, _⟩ := hb
  have hm := mem_rowOf.1 hk'
  rcases hx.own.2 with ⟨rfl, _⟩ | ⟨g', cap, cur, rfl, _, hg', _⟩
  · simp [Value.ownBlock] at hm
  · simp only [Value.ownBlock, Option.some.injEq] at hm
    subst hm
    rw [h1] at hg'
    cases hg'
theorem StAt.pd {W w : World} {p bd bf : Nat} {A : Option Addr} {m c : Nat} {S : StD} (h : StAt W w p bd bf A m c S) : bd ≠ p := h.md.ne_blk h.blk
theorem StAt.pf {W w : World} {p bd bf : Nat} {A : Option Addr} {m c : Nat} {S : StD} (h : StAt W w p bd bf A m c S) : bf ≠ p := h.mf.ne_blk h.blk
theorem StAt.putF {W w w' : World} {p bd bf : Nat} {A : Option Addr} {m c : Nat} {S : StD} (h : StAt W w p bd bf A m c S) {M : List (TupD × FlD)} (hm : MapB ekT evF w' bf M) (hk : Kept [bf] w w') : StAt W w' p bd bf A m c { S with flows := M } :=
  ⟨h.blk.kept hk (by simpa using fun e => h.pf e.symm), h.md.kept hk (by simpa using h.ne), hm, BkV.farM h.bk hk h.mf h.hf, h.hp, h.hd, h.hf, h.ne⟩
theorem StAt.putD {W w w' : World} {p bd bf : Nat} {A : Option Addr} {m c : Nat} {S : StD} (h : StAt W w p bd bf A m c S) {M : List (Int × Int)} (hm : MapB ekI evI w' bd M) (hk : Kept [bd] w w') : StAt W w' p bd bf A m c { S with drains := M } :=
  ⟨h.blk.kept hk (by simpa using fun e => h.pd e.symm), hm, h.mf.kept hk (by simpa using fun e => h.ne e.symm), BkV.farM h.bk hk h.md h.hd, h.hp, h.hd, h.hf, h.ne⟩
theorem StAt.putG {W w w' : World} {p bd bf : Nat} {A : Option Addr} {m c : Nat} {S : StD} (h : StAt W w p bd bf A m c S) (hk : Kept [] w w') {g : Int} {A2 : Option Addr} {m2 c2 : Nat} {l : List BackD} (hl : BkV W w' (.slice A2 m2 c2) l) :
    StAt W ((w'.setCell ⟨p, 0, none⟩ (.int .i64 g)).setCell ⟨p, 1, none⟩ (.slice A2 m2 c2)) p bd bf A2 m2 c2 { S with gen := g, backs := l } ∧ Kept [p] w ((w'.setCell ⟨p, 0, none⟩ (.int .i64 g)).setCell ⟨p, 1, none⟩ (.slice A2 m2 c2)) := by
  have hb := h.blk.kept hk (by simp)
  have hs : Kept [p] w' ((w'.setCell ⟨p, 0, none⟩ (.int .i64 g)).setCell ⟨p, 1, none⟩ (.slice A2 m2 c2)) := ((Kept.refl [p] w').setCell (.inl (by simp)) _).setCell (.inl (by simp)) _
  refine ⟨⟨?_, (h.md.kept hk (by simp)).kept hs (by simpa using h.pd), (h.mf.kept hk (by simp)).kept hs (by simpa using h.pf), BkV.far hl hs hb (by decide) h.hp, h.hp, h.hd, h.hf, h.ne⟩, (hk.mono (T := [p]) (by simp)).trans hs (by simp)⟩
  have := (hb.set 0 (.int .i64 g)).set 1 (.slice A2 m2 c2)
  simpa using this
/-- what Apply owes -/
def ApplyPost (W w : World) (p bd bf : Nat) (S : StD) (r : RecD) (e : Ending) (w' : World) : Prop :=
  e = .returned (.int .i64 (errS S r)) ∧ Kept [p, bd, bf] w w' ∧ ∃ A m c, StAt W w' p bd bf A m c (applyS S r)
theorem ApplyPost.bad {W w w' : World} {p bd bf : Nat} {A : Option Addr} {m c : Nat} {S : StD} {r : RecD} (h : StAt W w p bd bf A m c S) (hk : Kept [] w w') (hb : badS r = true) : ApplyPost W w p bd bf S r (.returned (.int .i64 1)) w' := by
  obtain ⟨e1, e2⟩ := apply_bad (s := S) hb
  exact ⟨by rw [e1], hk.mono (by simp), A, m, c, by rw [e2]; exact h.go hk⟩
theorem ApplyPost.full {W w w' : World} {p bd bf : Nat} {A : Option Addr} {m c : Nat} {S : StD} {r : RecD} (h : StAt W w p bd bf A m c S) (hk : Kept [] w w') (hb : badS r = false) (hf : fullS S r = true) : ApplyPost W w p bd bf S r (.returned (.int .i64 9)) w' := by
  obtain ⟨e1, e2⟩ := apply_full hb hf
  exact ⟨by rw [e1], hk.mono (by simp), A, m, c, by rw [e2]; exact h.go hk⟩
theorem ApplyPost.good {W w w' : World} {p bd bf : Nat} {A : Option Addr} {m c : Nat} {S S' : StD} {r : RecD} (h : StAt W w' p bd bf A m c S') (hk : Kept [p, bd, bf] w w') (hb : badS r = false) (hf : fullS S r = false) (hs : doneS S r = S') : ApplyPost W w p bd bf S r (.returned (.int .i64 0)) w' := by
  obtain ⟨e1, e2⟩ := apply_good hb hf
  exact ⟨by rw [e1], hk, A, m, c, by rw [e2, hs]; exact h⟩
theorem bad_may {r : RecD} (h : mayR r = false) : badS r = true := by simp [badS, h]
theorem bad_not {r : RecD} (h : mayR r = true) (h6 : r.kind ≠ 6) (h3 : r.kind ≠ 3) : badS r = false := by simp [badS, h, h6, h3]
end Go.Proofs.YtdabbkkjmmbigaaGreat
