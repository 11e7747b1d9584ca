
/-
  The laws' calls: a list of them among the arguments; short.
-/
import Derived.Test.YthdjdfdefibepaaDkP
import Derived.Test.YthdjdfdefibepaaFrameT
section
namespace Go.Proofs.Ythdjdfdefibepaa
open Go.RowKit Go.ChangeShapes Go.WideShapes Go.ChangeAt Go.Deep Go.MapKept
set_option linter.unusedVariables false

/-- a slice of strings that reads l -/
def StrA (w : World) (A : Option Addr) (m : Nat) (l : List Bs) : Prop := l.length = m ∧ ∀ (i : Nat) (x : Bs), l[i]? = some x → ∃ g, A = some ⟨g, 0, none⟩ ∧ g < w.heap.size ∧ w.cell? ⟨g, i, none⟩ = some (.string (strOf x))
theorem StrA.kept {w w' : World} {A : Option Addr} {m : Nat} {l : List Bs} (h : StrA w A m l) (hk : Kept [] w w') : StrA w' A m l :=
  ⟨h.1, fun i x hi => by
    obtain ⟨g, e, h1, h2⟩ := h.2 i x hi
    exact ⟨g, e, Nat.lt_of_lt_of_le h1 hk.size, (hk.cell (p := ⟨g, _, none⟩) h1 (by simp)).trans h2⟩⟩
theorem StrsV.arr {W w : World} {v : Value} {l : List Bs} (h : StrsV W w v l) : ∃ A c, v = .slice A l.length c ∧ StrA w A l.length l := by
  rcases h.2 with ⟨rfl, rfl⟩ | ⟨g, cap, rfl, hr, _⟩
  · exact ⟨none, 0, rfl, rfl, fun i x hi => by simp at hi⟩
  · refine ⟨_, _, rfl, rfl, fun i x hi => ⟨g, rfl, hr.lt, ?_⟩⟩
    have := hr.cell hi (c := 0) (v := .string (strOf x)) rfl
    simpa using this
theorem take_snoc_eq {a b : List Bs} {j : Nat} {x y : Bs} (h : a.take j = b.take j) (hx : a[j]? = some x) (hy : b[j]? = some y) : a.take (j + 1) = b.take (j + 1) ↔ x = y := by
  rw [List.take_add_one, List.take_add_one, hx, hy, h]
  simp
def SamePost (a b : List Bs) (w : World) (e : Ending) (w' : World) : Prop := ∃ r, e = .returned (.bool r) ∧ (r = true ↔ a = b) ∧ Kept [] w w'
set_option maxHeartbeats 1600000 in
theorem SameNames_any (w : World) {A B : Option Addr} {m n c d : Nat} {a b : List Bs} (ha : StrA w A m a) (hb : StrA w B n b) (hm : m ≤ 1000000) :
    Calls Try.prog 18 #[.slice A m c, .slice B n d] w (SamePost a b w) := by
  have LA := Lib.hid ha.1
  have LB := Lib.hid hb.1
  have HA := Lib.hid ha
  have HB := Lib.hid hb
  clear ha hb
  by_cases hmn : m = n
  rotate_left
  · have i1 : ¬ (m : Int) = (n : Int) := by omega
    have HD := Lib.hid (show (false = true ↔ a = b) from ⟨fun h => (nomatch h), fun e => absurd (by rw [← LA.out, ← LB.out, e]) hmn⟩)
    clear i1
    have i1 : ((m : Int) != (n : Int)) = true := by simp; omega
    go_enter Try.func18, Try.ntmps18
    go_wp2
    go_ret
    exact ⟨_, rfl, HD.out, Kept.refl _ _⟩
  subst hmn
  go_enter Try.func18, Try.ntmps18
  go_wp2
  go_loopg [13] m (fun gg i wr => ∃ j : Nat, j ≤ m ∧ gg = m - j ∧ i = .int .i64 (j : Nat) ∧ a.take j = b.take j ∧ Kept [] w wr)
  case atStart => exact ⟨0, by omega, by omega, rfl, rfl, Kept.refl _ _⟩
  case round =>
    obtain ⟨j, hj, rfl, rfl, ht, hk⟩ := hrel
    have HT := Lib.hid ht
    have HK := Lib.hid hk
    clear ht hk
    by_cases hlt : j < m
    · obtain ⟨x, hx⟩ : ∃ x, a[j]? = some x := ⟨_, List.getElem?_eq_getElem (by rw [LA.out]; exact hlt)⟩
      obtain ⟨y, hy⟩ : ∃ y, b[j]? = some y := ⟨_, List.getElem?_eq_getElem (by rw [LB.out]; exact hlt)⟩
      obtain ⟨g, rfl, hg, hgc⟩ := HA.out.2 j x hx
      obtain ⟨k, rfl, hk, hkc⟩ := HB.out.2 j y hy
      have g1 := (HK.out.cell (p := ⟨g, _, none⟩) hg (by simp)).trans hgc
      have g2 := (HK.out.cell (p := ⟨k, _, none⟩) hk (by simp)).trans hkc
      have l1 := Nat.lt_of_lt_of_le hg HK.out.size
      have l2 := Nat.lt_of_lt_of_le hk HK.out.size
      have TS := Lib.hid (take_snoc_eq HT.out hx hy)
      have i0 : (0 : Int) ≤ (j : Int) := by omega
      have i1 : (j : Int) < (m : Int) := by omega
      have iw : IntKind.i64.wrap ((j : Int) + 1) = (j : Int) + 1 := IntWalk.i64_in _ (by omega)
      have tx := strOf_toList x
      have ty := strOf_toList y
      clear hx hy hgc hkc hg hk
      go_upto_region 6 with fail
      by_cases hxy : x = y
      · subst hxy
        have T2 := Lib.hid (TS.out.2 rfl)
        go_quiet (fail)
        have KD := Lib.hid (HK.out.trans ((Kept.refl [] wr).drewN nq) (by simp))
        go_wp2
        go_roundg (m - (j + 1))
        case measure => omega
        case rel => exact ⟨j + 1, by omega, rfl, by go_num, T2.out, KD.out⟩
      · have HD := Lib.hid (show (false = true ↔ a = b) from ⟨fun h => (nomatch h), fun e => absurd (TS.out.1 (by rw [e])) hxy⟩)
        have nb : (!x == y) = true := by simp [hxy]
        go_quiet (fail)
        have KD := Lib.hid (HK.out.trans ((Kept.refl [] wr).drewN nq) (by simp))
        go_wp2
        go_ret
        exact ⟨_, rfl, HD.out, KD.out⟩
    · obtain rfl : j = m := by omega
      have i1 : ¬ (j : Int) < (j : Int) := by omega
      have hab : a = b := by
        have h := HT.out
        rwa [List.take_of_length_le (by rw [LA.out]; omega), List.take_of_length_le (by rw [LB.out]; omega)] at h
      have HD := Lib.hid hab
      clear hab
      go_wp2
      go_ret
      exact ⟨_, rfl, ⟨fun _ => HD.out, fun _ => rfl⟩, HK.out⟩
end Go.Proofs.Ythdjdfdefibepaa
end

section
namespace Go.Proofs.Ythdjdfdefibepaa
open Go.RowKit Go.ChangeShapes Go.WideShapes Go.ChangeAt Go.Deep Go.MapKept
set_option linter.unusedVariables false

/-- a call of the laws: what, the number, the names, the bytes -/
structure CD where
  k : Int
  n : Int
  a : Bs
  b : Bs
  raw : Bs
instance : Inhabited CD := ⟨⟨0, 0, [], [], []⟩⟩
/-- calls among the arguments -/
def CsAt (W w : World) (A : Option Addr) (m c : Nat) (l : List CD) : Prop := l.length = m ∧ m ≤ c ∧ c ≤ maxLen ∧
  ∀ (i : Nat) (q : CD), l[i]? = some q → ∃ g o B n d, A = some ⟨g, o, none⟩ ∧ g < W.heap.size ∧ w.cell? ⟨g, o + i * 5, none⟩ = some (.int .i64 q.k) ∧ w.cell? ⟨g, o + i * 5 + 1, none⟩ = some (.int .i64 q.n) ∧ w.cell? ⟨g, o + i * 5 + 2, none⟩ = some (.string (strOf q.a)) ∧ w.cell? ⟨g, o + i * 5 + 3, none⟩ = some (.string (strOf q.b)) ∧ w.cell? ⟨g, o + i * 5 + 4, none⟩ = some (.slice B n d) ∧ RdB w (old W) (.slice B n d) q.raw
theorem CsAt.kept {W w w' : World} {A : Option Addr} {m c : Nat} {l : List CD} (h : CsAt W w A m c l) (h0 : Kept [] W w) (hk : Kept [] w w') : CsAt W w' A m c l := by
  obtain ⟨h1, h2, h3, h4⟩ := h
  refine ⟨h1, h2, h3, fun i q hi => ?_⟩
  obtain ⟨g, o, B, n, d, e1, e2, c0, c1, c2, c3, c4, e4⟩ := h4 i q hi
  have hg := Nat.lt_of_lt_of_le e2 h0.size
  have K : ∀ k, w'.cell? ⟨g, k, none⟩ = w.cell? ⟨g, k, none⟩ := fun k => hk.cell (p := ⟨g, k, none⟩) hg (by simp)
  exact ⟨g, o, B, n, d, e1, e2, (K _).trans c0, (K _).trans c1, (K _).trans c2, (K _).trans c3, (K _).trans c4, e4.kept hk (by simp)⟩
theorem strOf_data (s : ByteArray) : strOf s.data.toList = s := by unfold strOf; simp
section
variable {H : Type} {enc : TypeId × Value → H} {w : World} {v : Value} {d : DataW H} {p : List MemPlace} {base : Nat}
set_option maxRecDepth 100000 in
theorem open_dcalls (hv : Value.okWide Try.prog w .any base 22 v) (h : DataW.Trod enc Try.prog w 0 (fun _ => true) true 22 v d p) :
    ∃ (A : Option Addr) (m c : Nat) (l : List CD), v = .slice A m c ∧ CsAt w w A m c l := by
  obtain ⟨a0, len, cap, rfl⟩ := okWide_slice Try.underlying22 hv
  obtain ⟨fuel, hf⟩ := h
  obtain ⟨A, m, c, E, D, e1, h2, h3, h4, h5, h6, h7⟩ := open_slice_at (n := 5) Try.underlying22 (by kernel_rfl) (by omega) hf
  obtain ⟨l, hl, hd, hs⟩ := list_of_dec (α := CD) (m := m) (E := E) (D := D) (Dec := fun cs q => ∃ B n d, cs = [.int .i64 q.k, .int .i64 q.n, .string (strOf q.a), .string (strOf q.b), .slice B n d] ∧ RdB w (old w) (.slice B n d) q.raw) (bk := fun _ => 0) (fun i hi => by
    obtain ⟨_, fu, ps, ht⟩ := h6 i hi
    obtain ⟨k, n, a, b, B, m', c', bs, e, hr, _⟩ := open_dcall_cells ht
    exact ⟨⟨k, n, a.data.toList, b.data.toList, bs⟩, ⟨B, m', c', by rw [strOf_data, strOf_data]; exact e, hr⟩, Nat.zero_le _⟩)
  refine ⟨A, m, c, l, by simpa [Value.cells] using e1, hl, h2, h3, fun i q hi => ?_⟩
  have hlt : i < m := by have := (List.getElem?_eq_some_iff.1 hi).1; omega
  obtain ⟨g, o, e2, e3, e4⟩ := h5 (by omega)
  obtain ⟨B, n, d, f1, f2⟩ := hd i q hi
  have C := fun j hj => e4 i j hlt hj
  rw [f1] at C
  exact ⟨g, o, B, n, d, e2, e3, by simpa using C 0 (by omega), by simpa [Nat.add_assoc] using C 1 (by omega), by simpa [Nat.add_assoc] using C 2 (by omega), by simpa [Nat.add_assoc] using C 3 (by omega), by simpa [Nat.add_assoc] using C 4 (by omega), f2⟩
end
/-- a call that the laws look at -/
def smallD (q : CD) : Prop := q.raw.length ≤ 3000 ∧ q.a.length ≤ 40 ∧ q.b.length ≤ 40
instance (q : CD) : Decidable (smallD q) := inferInstanceAs (Decidable (_ ∧ _ ∧ _))
def ShortPost (l : List CD) (w : World) (e : Ending) (w' : World) : Prop := ∃ r, e = .returned (.bool r) ∧ (r = true → l.length ≤ 120 ∧ ∀ q ∈ l, smallD q) ∧ Kept [] w w'
set_option maxHeartbeats 3200000 in
set_option maxRecDepth 100000 in
theorem short_any (w : World) {A : Option Addr} {m c : Nat} {l : List CD} (h : CsAt w w A m c l) : Calls Try.prog 12 #[.slice A m c] w (ShortPost l w) := by
  have HC := Lib.hid h
  have LL := Lib.hid h.1
  have m1 := h.2.1
  have m2 := h.2.2.1
  unfold maxLen at m2
  clear h
  go_enter Try.func12, Try.ntmps12
  go_wp2
  go_loopg [7] m (fun gg i wr => ∃ j : Nat, j ≤ m ∧ gg = m - j ∧ i = .int .i64 (j : Nat) ∧ j ≤ 120 ∧ (∀ q ∈ l.take j, smallD q) ∧ Kept [] w wr)
  case atStart => exact ⟨0, by omega, by omega, rfl, by omega, by simp, Kept.refl _ _⟩
  case round =>
    obtain ⟨j, hj, rfl, rfl, hj2, hs, hk⟩ := hrel
    have HS := Lib.hid hs
    have HK := Lib.hid hk
    clear hs hk
    by_cases hlt : j < m
    · obtain ⟨q, hq⟩ : ∃ q, l[j]? = some q := ⟨_, List.getElem?_eq_getElem (by rw [LL.out]; exact hlt)⟩
      obtain ⟨g, o, B, n, d, rfl, hg, c0, c1, c2, c3, c4, hr⟩ := (HC.out.kept (Kept.refl _ _) HK.out).2.2.2 j q hq
      have hlr := hr.len
      have L1 := Lib.hid hlr.1
      have s1 := strOf_size q.a
      have s2 := strOf_size q.b
      have hgw := Nat.lt_of_lt_of_le hg HK.out.size
      have i0 : (0 : Int) ≤ (j : Int) := by omega
      have i1 : (j : Int) < (m : Int) := by omega
      have iw : IntKind.i64.wrap ((j : Int) + 1) = (j : Int) + 1 := IntWalk.i64_in _ (by omega)
      have TK := Lib.hid (show ∀ r ∈ l.take (j + 1), r ∈ l.take j ∨ r = q from fun r hr => by
        rw [List.take_add_one, hq] at hr
        simpa using hr)
      clear hr hlr hq
      go_upto_region 4 with (first
        | (((with_reducible show wpList _ _ _ ({ dst := none, op := Op.store 30 (.tmp 4) (.tmp 11), type := _, pos := _, after := _, guard := _ } :: _) _ _); refine wpList_put (t := 30) rfl 30 (.tmp 4) (.tmp 11) rfl _ (by rfl) (by rfl) (by (repeat (first | (apply Blk.new'; simp; done) | apply Blk.alloc | apply Blk.drew))) (by rfl) (by kernel_rfl) (by simp [Value.oneCell']) ?_; intro w5 hb5 hk5; have Hb5 := Lib.hid hb5; have Hk5 := Lib.hid hk5; clear hb5 hk5)
           have K5 := Lib.hid (((Kept.refl [] wr).alloc _).trans Hk5.out (fun i hi => .inr (by simp at hi; omega)) : Kept [] wr w5)
           have hx5 := Hb5.out.cell))
      by_cases g0 : 120 ≤ j
      · have j0 : (120 : Int) ≤ (j : Int) := by omega
        clear g0
        go_wp2
        go_ret
        exact ⟨false, rfl, fun h => (nomatch h), HK.out.trans K5.out (by simp)⟩
      have j0 : ¬ (120 : Int) ≤ (j : Int) := by omega
      by_cases g1 : 3000 < n
      · have j1 : (3000 : Int) < (n : Int) := by omega
        clear g0 g1
        go_wp2
        go_ret
        exact ⟨false, rfl, fun h => (nomatch h), HK.out.trans K5.out (by simp)⟩
      have j1 : ¬ (3000 : Int) < (n : Int) := by omega
      by_cases g2 : 40 < q.a.length
      · have j2 : (40 : Int) < ((strOf q.a).size : Int) := by rw [s1]; omega
        clear g0 g1 g2 s1 s2
        go_wp2
        go_ret
        exact ⟨false, rfl, fun h => (nomatch h), HK.out.trans K5.out (by simp)⟩
      have j2 : ¬ (40 : Int) < ((strOf q.a).size : Int) := by rw [s1]; omega
      by_cases g3 : 40 < q.b.length
      · have j3 : (40 : Int) < ((strOf q.b).size : Int) := by rw [s2]; omega
        clear g0 g1 g2 g3 s1 s2
        go_wp2
        go_ret
        exact ⟨false, rfl, fun h => (nomatch h), HK.out.trans K5.out (by simp)⟩
      have j3 : ¬ (40 : Int) < ((strOf q.b).size : Int) := by rw [s2]; omega
      have SM := Lib.hid (show smallD q from ⟨by rw [L1.out]; omega, by omega, by omega⟩)
      have J1 := Lib.hid (show j + 1 ≤ 120 by omega)
      clear g0 g1 g2 g3 s1 s2
      go_wp2
      go_roundg (m - (j + 1))
      case measure => omega
      case rel => exact ⟨j + 1, by omega, rfl, by go_num, J1.out, fun r hr => (TK.out r hr).elim (HS.out r) (fun e => e ▸ SM.out), HK.out.trans K5.out (by simp)⟩
    · obtain rfl : j = m := by omega
      have i1 : ¬ (j : Int) < (j : Int) := by omega
      have HE := Lib.hid (show l.length ≤ 120 ∧ ∀ q ∈ l, smallD q from ⟨by rw [LL.out]; exact hj2, by
        have h := HS.out
        rwa [List.take_of_length_le (by rw [LL.out]; omega)] at h⟩)
      go_wp2
      go_ret
      exact ⟨true, rfl, fun _ => HE.out, HK.out⟩
end Go.Proofs.Ythdjdfdefibepaa
end
