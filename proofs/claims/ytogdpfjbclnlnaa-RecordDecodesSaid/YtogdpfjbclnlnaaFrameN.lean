
/-
  Contracts: a frame that every program must know; rows of frames: the same?; Scan, the reference's Scan.
-/
import Derived.Test.YtogdpfjbclnlnaaFrameV
import Derived.Test.YtogdpfjbclnlnaaFrameM
import Derived.Test.YtogdpfjbclnlnaaRef1R
namespace Go.Proofs.Ytogdpfjbclnlnaa
open Go.RowKit Go.ChangeShapes Go.WideShapes Go.Deep
set_option linter.unusedVariables false

/-- cells that read a frame -/
def FrDec (w : World) (G : List Nat) (cs : List Value) (f : FrameD) : Prop := ∃ A m c, cs = [.int .i64 f.kind, .int .i64 f.ver, .slice A m c] ∧ RdB w G (.slice A m c) f.body
theorem FrOk : DecOk 3 FrDec where
  len := by rintro w G cs f ⟨A, m, c, rfl, h⟩; rfl
  one := by rintro w G cs f ⟨A, m, c, rfl, h⟩ u hu; simp at hu; rcases hu with rfl | rfl | rfl <;> rfl
  kept := by rintro w w' G S cs f ⟨A, m, c, rfl, h⟩ hk hd; exact ⟨A, m, c, rfl, h.kept hk hd⟩
  mono := by rintro w G G' cs f ⟨A, m, c, rfl, h⟩ hg; exact ⟨A, m, c, rfl, h.mono hg⟩
/-- a row of frames -/
abbrev FrArr (w : World) (G : List Nat) (v : Value) (l : List FrameD) : Prop := ArrOf w G 3 (fun w => FrDec w G) v l
abbrev FrV (W w : World) (v : Value) (l : List FrameD) : Prop := LV FrDec 34 3 W w v l
theorem FrArr.kept {w w' : World} {G S : List Nat} {v : Value} {l : List FrameD} (h : FrArr w G v l) (hk : Kept S w w') (hd : ∀ k ∈ G, k ∉ S) : FrArr w' G v l :=
  ArrOf.kept (Dec := fun w => FrDec w G) h hk hd (fun cs a h => FrOk.kept h hk hd)
theorem info_frame : (Try.prog.info? 34).map (fun i => (i.zero, i.size, i.bytes)) = some (some (.agg #[.int .i64 0, .int .i64 0, .slice none 0 0]), 3, 40) := by kernel_rfl
theorem sameFs_drop {l l' : List FrameD} {k : Nat} (h : k < l.length) (h' : k < l'.length) : sameFs (l.drop k) (l'.drop k) = (sameF l[k] l'[k] && sameFs (l.drop (k + 1)) (l'.drop (k + 1))) := by
  rw [← List.getElem_cons_drop (h := h), ← List.getElem_cons_drop (h := h')]; rfl
theorem sameFs_len : ∀ {l l' : List FrameD}, l.length ≠ l'.length → sameFs l l' = false
  | [], [], h => absurd rfl h
  | [], _ :: _, _ => rfl
  | _ :: _, [], _ => rfl
  | f :: l, g :: l', h => by simp [sameFs, sameFs_len (l := l) (l' := l') (by simpa using h)]

/-- one frame of an array: its cells -/
theorem FrArr.at {w : World} {G : List Nat} {A : Option Addr} {m c : Nat} {l : List FrameD} (h : FrArr w G (.slice A m c) l) {k : Nat} (hk : k < l.length) :
    ∃ g o B n d, A = some ⟨g, o, none⟩ ∧ g < w.heap.size ∧ g ∈ G ∧ w.cell? ⟨g, o + k * 3, none⟩ = some (.int .i64 l[k].kind) ∧ w.cell? ⟨g, o + k * 3 + 1, none⟩ = some (.int .i64 l[k].ver) ∧ w.cell? ⟨g, o + k * 3 + 2, none⟩ = some (.slice B n d) ∧ RdB w G (.slice B n d) l[k].body := by
  obtain ⟨A', m', c', e, h1, h2, h3, h4, h5⟩ := h
  injection e with e1 e2 e3
  subst e1 e2 e3
  obtain ⟨g, o, rfl, hg, hlt, hc⟩ := h5 (by rintro rfl; simp at hk)
  obtain ⟨cs, _, ⟨B, n, d, rfl, hr⟩, hcell⟩ := hc k _ (List.getElem?_eq_getElem hk)
  exact ⟨g, o, B, n, d, rfl, hlt, hg, by simpa using hcell 0 (by omega), by simpa [Nat.add_assoc] using hcell 1 (by omega), by simpa [Nat.add_assoc] using hcell 2 (by omega), hr⟩
theorem FrArr.len {w : World} {G : List Nat} {A : Option Addr} {m c : Nat} {l : List FrameD} (h : FrArr w G (.slice A m c) l) : l.length = m ∧ m ≤ c ∧ c ≤ maxLen ∧ (A = none → m = 0 ∧ c = 0) := by
  obtain ⟨A', m', c', e, h1, h2, h3, h4, h5⟩ := h
  injection e with e1 e2 e3
  subst e1 e2 e3
  exact ⟨h1, h2, h3, h4⟩

end Go.Proofs.Ytogdpfjbclnlnaa
