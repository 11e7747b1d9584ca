/-
  Arguments of the laws on frames, opened.
-/
import Derived.BigQuiet
import Derived.Laws.OwnMore
import Derived.Test.YtgndijdhmkphaaaGreatDoorRef1
import Derived.Test.YtgndijdhmkphaaaGreatDoorFrameM
import Derived.Test.YtgndijdhmkphaaaGreatDoorFrameR
import Derived.Test.YtgndijdhmkphaaaGreatDoorBkx
namespace Go.Proofs.YtgndijdhmkphaaaGreatDoor
set_option linter.unusedVariables false
section
open Go.RowKit
set_option maxRecDepth 100000
end
section
open Go.RowKit
set_option maxRecDepth 100000
end
section
open Go.RowKit Go.ChangeShapes Go.WideShapes Go.Deep
set_option maxRecDepth 100000
end
section
open Go.RowKit Go.ChangeShapes Go.WideShapes Go.Deep
set_option maxRecDepth 100000
end
section
open Go.RowKit Go.ChangeShapes Go.WideShapes Go.Deep
set_option maxRecDepth 100000
def IntDec (w : World) (G : List Nat) (cs : List Value) (n : Int) : Prop := cs = [.int .i64 n] ∧ -9223372036854775808 ≤ n ∧ n ≤ 9223372036854775807
abbrev IntArr (w : World) (G : List Nat) (v : Value) (l : List Int) : Prop := ArrOf w G 1 (fun w => IntDec w G) v l
theorem IntArr.kept {w w' : World} {G S : List Nat} {v : Value} {l : List Int} (h : IntArr w G v l) (hk : Kept S w w') (hd : ∀ k ∈ G, k ∉ S) : IntArr w' G v l :=
  ArrOf.kept (Dec := fun w => IntDec w G) h hk hd (fun cs a h => h)
theorem IntArr.at {w : World} {G : List Nat} {A : Option Addr} {m c : Nat} {l : List Int} (h : IntArr w G (.slice A m c) l) {k : Nat} (hk : k < l.length) :
    ∃ g o, A = some ⟨g, o, none⟩ ∧ g < w.heap.size ∧ g ∈ G ∧ w.cell? ⟨g, o + k, none⟩ = some (.int .i64 l[k]) ∧ -9223372036854775808 ≤ l[k] ∧ l[k] ≤ 9223372036854775807 := by
  obtain ⟨A', m', c', e, h1, h2, h3, h4, h5⟩ := h
  injection e with e1 e2 e3
  subst e1 e2 e3
  obtain ⟨g, o, rfl, hg, hlt, hc⟩ := h5 (by rintro rfl; simp at hk)
  obtain ⟨cs, _, ⟨rfl, hr⟩, hcell⟩ := hc k _ (List.getElem?_eq_getElem hk)
  exact ⟨g, o, rfl, hlt, hg, by simpa using hcell 0 (by omega), hr⟩
theorem ArrOf.lens {α : Type} {w : World} {G : List Nat} {n : Nat} {Dec : World → List Value → α → Prop} {A : Option Addr} {m c : Nat} {l : List α} (h : ArrOf w G n Dec (.slice A m c) l) : l.length = m ∧ m ≤ c ∧ c ≤ maxLen ∧ (A = none → m = 0 ∧ c = 0) := by
  obtain ⟨A', m', c', e, h1, h2, h3, h4, h5⟩ := h
  injection e with e1 e2 e3
  subst e1 e2 e3
  exact ⟨h1, h2, h3, h4⟩
theorem New.set {W w : World} {g n cap : Nat} {bs : List UInt8} (h : New W 5 1 (.slice (some ⟨g, 0, none⟩) n cap) n (u8s bs) w) (j : Nat) (b : UInt8) :
    New W 5 1 (.slice (some ⟨g, 0, none⟩) n cap) n (u8s (bs.set j b)) (w.setCell ⟨g, j, none⟩ (.int .u8 b.toNat)) := by
  have h1 := World.ownsRow.stored h.1 j (.int .u8 (b.toNat : Int))
  refine ⟨?_, h.2.1.trans ((Kept.refl [g] w).grown h1.2 (fun k hk => .inl (by injection hk with hk; simp [hk]))) (fun i hi => .inr ?_), h.2.2⟩
  · have e : u8s (bs.set j b) = (u8s bs).set j (.int .u8 (b.toNat : Int)) := by simp [u8s, List.map_set, u8v]
    rw [e]; exact h1.1
  · have hi : i = g := by simpa using hi
    rw [hi]; exact h.2.2 g (by simp [rowOf, Value.ownBlock])
end
section
open Go.RowKit Go.ChangeShapes Go.WideShapes Go.ChangeAt Go.Deep
set_option maxRecDepth 100000
section
variable {H : Type} {enc : TypeId × Value → H} {w : World}
set_option maxRecDepth 100000 in
theorem open_ints_arr {v : Value} {d : DataW H} {p : List MemPlace} {base : Nat} (hv : Value.okWide Tryz.prog w .any base 23 v) (h : DataW.Trod enc Tryz.prog w 0 (fun _ => true) true 23 v d p) :
    ∃ l : List Int, IntArr w (old w) v l ∧ (l.map fun _ => 0).sum + 1 ≤ Rows.uptoBulk d :=
  open_list (Dec := IntDec) Tryz.underlying23 (by kernel_rfl) (by omega) (fun {fuel cs x} h => by
    obtain ⟨a, e0, _, wa⟩ := DataW.trod_int Tryz.underlying3 h
    subst e0
    refine ⟨a, ⟨rfl, ?_⟩, Nat.zero_le _⟩
    simp [Lit.wf, IntKind.min, IntKind.max, IntKind.signed, IntKind.bits] at wa
    omega) hv h
end
end
end Go.Proofs.YtgndijdhmkphaaaGreatDoor
