
/-
  The document's SameNames: two rows of names compared.
-/
import Derived.Test.YthdjdfdefibepaaDkP
namespace Go.Proofs.Ythdjdfdefibepaa
open Go.RowKit Go.ChangeShapes Go.WideShapes Go.ChangeAt Go.Deep Go.MapKept
set_option linter.unusedVariables false

/-- a slice of strings that reads l -/
def StrA (w : World) (A : Option Addr) (m : Nat) (l : List Bs) : Prop := l.length = m ∧ ∀ (i : Nat) (x : Bs), l[i]? = some x → ∃ g, A = some ⟨g, 0, none⟩ ∧ g < w.heap.size ∧ w.cell? ⟨g, i, none⟩ = some (.string (strOf x))
theorem StrA.kept {w w' : World} {A : Option Addr} {m : Nat} {l : List Bs} (h : StrA w A m l) (hk : Kept [] w w') : StrA w' A m l :=
  ⟨h.1, fun i x hi => by
    obtain ⟨g, e, h1, h2⟩ := h.2 i x hi
    exact ⟨g, e, Nat.lt_of_lt_of_le h1 hk.size, (hk.cell (p := ⟨g, _, none⟩) h1 (by simp)).trans h2⟩⟩
theorem StrsV.arr {W w : World} {v : Value} {l : List Bs} (h : StrsV W w v l) : ∃ A c, v = .slice A l.length c ∧ StrA w A l.length l := by
  rcases h.2 with ⟨rfl, rfl⟩ | ⟨g, cap, rfl, hr, _⟩
  · exact ⟨none, 0, rfl, rfl, fun i x hi => by simp at hi⟩
  · refine ⟨_, _, rfl, rfl, fun i x hi => ⟨g, rfl, hr.lt, ?_⟩⟩
    have := hr.cell hi (c := 0) (v := .string (strOf x)) rfl
    simpa using this
theorem take_snoc_eq {a b : List Bs} {j : Nat} {x y : Bs} (h : a.take j = b.take j) (hx : a[j]? = some x) (hy : b[j]? = some y) : a.take (j + 1) = b.take (j + 1) ↔ x = y := by
  rw [List.take_add_one, List.take_add_one, hx, hy, h]
  simp
def SamePost (a b : List Bs) (w : World) (e : Ending) (w' : World) : Prop := ∃ r, e = .returned (.bool r) ∧ (r = true ↔ a = b) ∧ Kept [] w w'
set_option maxHeartbeats 1600000 in
theorem SameNames_any (w : World) {A B : Option Addr} {m n c d : Nat} {a b : List Bs} (ha : StrA w A m a) (hb : StrA w B n b) (hm : m ≤ 1000000) :
    Calls Try.prog 18 #[.slice A m c, .slice B n d] w (SamePost a b w) := by
  have LA := Lib.hid ha.1
  have LB := Lib.hid hb.1
  have HA := Lib.hid ha
  have HB := Lib.hid hb
  clear ha hb
  by_cases hmn : m = n
  rotate_left
  · have i1 : ¬ (m : Int) = (n : Int) := by omega
    have HD := Lib.hid (show (false = true ↔ a = b) from ⟨fun h => (nomatch h), fun e => absurd (by rw [← LA.out, ← LB.out, e]) hmn⟩)
    clear i1
    have i1 : ((m : Int) != (n : Int)) = true := by simp; omega
    go_enter Try.func18, Try.ntmps18
    go_wp2
    go_ret
    exact ⟨_, rfl, HD.out, Kept.refl _ _⟩
  subst hmn
  go_enter Try.func18, Try.ntmps18
  go_wp2
  go_loopg [13] m (fun gg i wr => ∃ j : Nat, j ≤ m ∧ gg = m - j ∧ i = .int .i64 (j : Nat) ∧ a.take j = b.take j ∧ Kept [] w wr)
  case atStart => exact ⟨0, by omega, by omega, rfl, rfl, Kept.refl _ _⟩
  case round =>
    obtain ⟨j, hj, rfl, rfl, ht, hk⟩ := hrel
    have HT := Lib.hid ht
    have HK := Lib.hid hk
    clear ht hk
    by_cases hlt : j < m
    · obtain ⟨x, hx⟩ : ∃ x, a[j]? = some x := ⟨_, List.getElem?_eq_getElem (by rw [LA.out]; exact hlt)⟩
      obtain ⟨y, hy⟩ : ∃ y, b[j]? = some y := ⟨_, List.getElem?_eq_getElem (by rw [LB.out]; exact hlt)⟩
      obtain ⟨g, rfl, hg, hgc⟩ := HA.out.2 j x hx
      obtain ⟨k, rfl, hk, hkc⟩ := HB.out.2 j y hy
      have g1 := (HK.out.cell (p := ⟨g, _, none⟩) hg (by simp)).trans hgc
      have g2 := (HK.out.cell (p := ⟨k, _, none⟩) hk (by simp)).trans hkc
      have l1 := Nat.lt_of_lt_of_le hg HK.out.size
      have l2 := Nat.lt_of_lt_of_le hk HK.out.size
      have TS := Lib.hid (take_snoc_eq HT.out hx hy)
      have i0 : (0 : Int) ≤ (j : Int) := by omega
      have i1 : (j : Int) < (m : Int) := by omega
      have iw : IntKind.i64.wrap ((j : Int) + 1) = (j : Int) + 1 := IntWalk.i64_in _ (by omega)
      have tx := strOf_toList x
      have ty := strOf_toList y
      clear hx hy hgc hkc hg hk
      go_upto_region 6 with fail
      by_cases hxy : x = y
      · subst hxy
        have T2 := Lib.hid (TS.out.2 rfl)
        go_quiet (fail)
        have KD := Lib.hid (HK.out.trans ((Kept.refl [] wr).drewN nq) (by simp))
        go_wp2
        go_roundg (m - (j + 1))
        case measure => omega
        case rel => exact ⟨j + 1, by omega, rfl, by go_num, T2.out, KD.out⟩
      · have HD := Lib.hid (show (false = true ↔ a = b) from ⟨fun h => (nomatch h), fun e => absurd (TS.out.1 (by rw [e])) hxy⟩)
        have nb : (!x == y) = true := by simp [hxy]
        go_quiet (fail)
        have KD := Lib.hid (HK.out.trans ((Kept.refl [] wr).drewN nq) (by simp))
        go_wp2
        go_ret
        exact ⟨_, rfl, HD.out, KD.out⟩
    · obtain rfl : j = m := by omega
      have i1 : ¬ (j : Int) < (j : Int) := by omega
      have hab : a = b := by
        have h := HT.out
        rwa [List.take_of_length_le (by rw [LA.out]; omega), List.take_of_length_le (by rw [LB.out]; omega)] at h
      have HD := Lib.hid hab
      clear hab
      go_wp2
      go_ret
      exact ⟨_, rfl, ⟨fun _ => HD.out, fun _ => rfl⟩, HK.out⟩
end Go.Proofs.Ythdjdfdefibepaa
