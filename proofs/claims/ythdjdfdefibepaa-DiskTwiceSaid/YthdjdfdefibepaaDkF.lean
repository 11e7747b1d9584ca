
/-
  The disk: Sync, Cut, Rename, Remove.
-/
import Derived.Test.YthdjdfdefibepaaDkE
namespace Go.Proofs.Ythdjdfdefibepaa
open Go.RowKit Go.ChangeShapes Go.WideShapes Go.ChangeAt Go.Deep Go.MapKept
set_option linter.unusedVariables false

theorem Own.cut1 {w : World} {e : TypeId} {s n cap j : Nat} {A : Option Addr} {xs : List Value} (h : Own w e s (.slice A n cap) n xs) (hj : j ≤ n) (h0 : 0 < n) : Own w e s (.slice A j cap) j (xs.take (j * s)) := by
  have hl := h.1
  rcases h.2 with ⟨_, h2⟩ | ⟨g, cap', cur, hv, hb, hg, h3, h4, h5, h6⟩
  · omega
  · injection hv with e1 e2 e3
    subst e1 e3
    have hjs : j * s ≤ n * s := Nat.mul_le_mul_right _ hj
    refine ⟨by rw [List.length_take, hl]; omega, .inr ⟨g, cap, cur, rfl, hb, hg, by omega, h4, h5, ?_⟩⟩
    rw [← h6, List.take_take, Nat.min_eq_left hjs]
theorem fnd_cases (D : DkD) (x : Bs) : (∃ e : Int, (e = 8 ∨ e = 6) ∧ fndD D x = (none, e, (begD D).2)) ∨ ∃ i, fndD D x = (some i, 0, (begD D).2) ∧ getM D.now x = some i := by
  rcases beg_cases D with ⟨h, _⟩ | ⟨h, _⟩
  · exact .inl ⟨8, .inl rfl, by unfold fndD; rw [h, if_pos (by decide)]⟩
  · cases hg : getM D.now x with
    | none => exact .inl ⟨6, .inr rfl, by unfold fndD; rw [h, if_neg (by decide), hg]⟩
    | some i => exact .inr ⟨i, by unfold fndD; rw [h, if_neg (by decide), hg], rfl⟩
set_option maxRecDepth 100000 in
set_option maxHeartbeats 6400000 in
theorem Sync_any {w : World} {G : List Nat} {p : Nat} {fb : List Nat} {D : DkD} {bn bs : Nat} {A : Option Addr} {m c : Nat} (h : DkX w G p fb D bn bs A m c) (ok : OkI D) (ho : D.ops ≤ 1000000) (x : Bs) :
    Calls Try.prog 21 #[.pointer (some ⟨p, 0, none⟩), .string (strOf x)] w fun e w' => e = .returned (.int .i64 (synD D x).1) ∧ DkOp w G p (synD D x).2 w' := by
  have FN := Lib.hid (find_any h ok.ops ho x)
  have OK1 := Lib.hid (beg_ok ok)
  obtain ⟨sm1, sm2, sm3, sm4, sm5, sm6⟩ := beg_same D
  have HIN := Lib.hid h.inp
  have HGL := Lib.hid h.lt
  have SM := Lib.hid (And.intro sm1 (And.intro sm2 sm4))
  have CL := Lib.hid (show (begD D).2.ch.length ≤ 1000000 by rw [sm4]; have := ok.nl.2.2.1; omega)
  have HNW := Lib.hid ok.now
  have SUR := Lib.hid ok.sure
  obtain ⟨D1, hD1⟩ : ∃ D1, (begD D).2 = D1 := ⟨_, rfl⟩
  clear sm1 sm2 sm3 sm4 sm5 sm6
  rcases fnd_cases D x with ⟨ec, hec, hfn⟩ | ⟨i, hfn, hg⟩
  · have HFN := Lib.hid hfn
    have HD1 := Lib.hid hD1
    have HA := Lib.hid (show synD D x = (ec, D1) by unfold synD; rw [hfn, hD1])
    have i0 : (ec == 0) = false := by rcases hec with rfl | rfl <;> rfl
    have i0' : (ec != 0) = true := by rcases hec with rfl | rfl <;> rfl
    clear h ok hfn hec hD1
    go_enter Try.func21, Try.ntmps21
    go_wp2_with (first
        | (go_at_call 42
           refine FN.out.mono ?_
           rintro e w1 ⟨rfl, hx1, hk1, _⟩
           rw [HFN.out]
           simp only [Option.map_none]
           rw [HD1.out] at hx1
           have X1 := Lib.hid hx1
           have K1 := Lib.hid (hk1.mono (fun i hi => by simp at hi; subst hi; exact .inl HIN.out) : Kept G w w1)
           clear hx1 hk1))
    go_ret
    exact ⟨by rw [HA.out]; rfl, by rw [HA.out]; exact ⟨fb, DkTo.of X1.out K1.out⟩⟩
  · have hi : i < D1.files.length := by rw [← hD1, SM.out.1]; exact HNW.out (x, i) (getM_mem hg)
    obtain ⟨f, hf⟩ : ∃ f, D1.files[i]? = some f := ⟨_, List.getElem?_eq_getElem hi⟩
    have hf' : D.files[i]? = some f := by rw [← SM.out.1, hD1]; exact hf
    have HFN := Lib.hid hfn
    have HD1 := Lib.hid hD1
    have HF := Lib.hid hf
    have HF' := Lib.hid hf'
    have HA := Lib.hid (show synD D x = (0, { D1 with files := D1.files.set i ⟨f.b, f.b.length⟩ }) by
      unfold synD
      rw [hfn, hD1]
      simp only
      rw [hf', ← SM.out.1, hD1])
    clear h ok hfn hD1 hf hf' hg
    go_enter Try.func21, Try.ntmps21
    go_upto_region 3 with (first
        | (go_at_call 42
           refine FN.out.mono ?_
           rintro e w1 ⟨rfl, hx1, hk1, _⟩
           rw [HFN.out]
           simp only [Option.map_some]
           rw [HD1.out] at hx1
           have X1 := Lib.hid hx1
           have K1 := Lib.hid (hk1.mono (fun i hi => by simp at hi; subst hi; exact .inl HIN.out) : Kept G w w1)
           clear hx1 hk1))
    obtain ⟨A2, c2, _, hgG, hfb, hfo, hfr⟩ := X1.out.fs.get HF.out
    have FBK := Lib.hid hfb
    have FO := Lib.hid hfo
    have FR := Lib.hid hfr
    obtain ⟨g, hgg⟩ : ∃ g, fbA fb i = g := ⟨_, rfl⟩
    have HGG := Lib.hid hgg
    rw [hgg] at FBK hgG
    simp only [hgg]
    have hc := FBK.out.cell
    have hff := FBK.out.frozen
    have hl := FBK.out.lt
    clear hfb hfo hfr hgg
    go_wp2
    go_ret
    refine ⟨by rw [HA.out]; rfl, ?_⟩
    rw [HA.out]
    have kE : Kept [g] w1 (w1.setCell ⟨g, 1, none⟩ (.int .i64 (f.b.length : Nat))) := (Kept.refl _ _).setCell (.inl (by simp)) _
    have hX := X1.out.file (f' := ⟨f.b, f.b.length⟩) HF.out (by rw [HGG.out]; exact FBK.out) FO.out (by rw [HGG.out]; exact kE.mono (fun k hk => .inl (by simp at hk; subst hk; exact List.mem_cons_self))) (by rw [HGG.out]; exact FBK.out.set 1 _) (FO.out.kept kE (fun k hk hm => by simp at hm; subst hm; exact FO.out.ne_blk FBK.out (by decide) hk)) (fun k hk => .inl hk)
    refine ⟨fb, _, _, _, _, _, _, hX, K1.out.trans kE (fun k hk => .inl (by simp at hk; subst hk; exact hgG)), fun k hk => ?_⟩
    rcases List.mem_append.1 hk with hk | hk
    · exact .inl (FR.out k hk)
    · exact .inl hk
set_option maxRecDepth 100000 in
set_option maxHeartbeats 6400000 in
theorem Remove_any {w : World} {G : List Nat} {p : Nat} {fb : List Nat} {D : DkD} {bn bs : Nat} {A : Option Addr} {m c : Nat} (h : DkX w G p fb D bn bs A m c) (ok : OkI D) (ho : D.ops ≤ 1000000) (x : Bs) :
    Calls Try.prog 26 #[.pointer (some ⟨p, 0, none⟩), .string (strOf x)] w fun e w' => e = .returned (.int .i64 (remD D x).1) ∧ DkOp w G p (remD D x).2 w' := by
  have FN := Lib.hid (find_any h ok.ops ho x)
  have OK1 := Lib.hid (beg_ok ok)
  obtain ⟨sm1, sm2, sm3, sm4, sm5, sm6⟩ := beg_same D
  have HIN := Lib.hid h.inp
  have HGL := Lib.hid h.lt
  have SM := Lib.hid (And.intro sm1 (And.intro sm2 sm4))
  have CL := Lib.hid (show (begD D).2.ch.length ≤ 1000000 by rw [sm4]; have := ok.nl.2.2.1; omega)
  have HNW := Lib.hid ok.now
  have SUR := Lib.hid ok.sure
  obtain ⟨D1, hD1⟩ : ∃ D1, (begD D).2 = D1 := ⟨_, rfl⟩
  clear sm1 sm2 sm3 sm4 sm5 sm6
  rcases fnd_cases D x with ⟨ec, hec, hfn⟩ | ⟨i, hfn, hg⟩
  · have HFN := Lib.hid hfn
    have HD1 := Lib.hid hD1
    have HA := Lib.hid (show remD D x = (ec, D1) by unfold remD; rw [hfn, hD1])
    have i0 : (ec == 0) = false := by rcases hec with rfl | rfl <;> rfl
    have i0' : (ec != 0) = true := by rcases hec with rfl | rfl <;> rfl
    clear h ok hfn hec hD1
    go_enter Try.func26, Try.ntmps26
    go_wp2_with (first
        | (go_at_call 42
           refine FN.out.mono ?_
           rintro e w1 ⟨rfl, hx1, hk1, _⟩
           rw [HFN.out]
           simp only [Option.map_none]
           rw [HD1.out] at hx1
           have X1 := Lib.hid hx1
           have K1 := Lib.hid (hk1.mono (fun i hi => by simp at hi; subst hi; exact .inl HIN.out) : Kept G w w1)
           clear hx1 hk1))
    go_ret
    exact ⟨by rw [HA.out]; rfl, by rw [HA.out]; exact ⟨fb, DkTo.of X1.out K1.out⟩⟩
  · have hi : i < D1.files.length := by rw [← hD1, SM.out.1]; exact HNW.out (x, i) (getM_mem hg)
    obtain ⟨f, hf⟩ : ∃ f, D1.files[i]? = some f := ⟨_, List.getElem?_eq_getElem hi⟩
    have hf' : D.files[i]? = some f := by rw [← SM.out.1, hD1]; exact hf
    have HFN := Lib.hid hfn
    have HD1 := Lib.hid hD1
    have HF := Lib.hid hf
    have HF' := Lib.hid hf'
    have HA := Lib.hid (show remD D x = (0, chgD D1 ⟨3, x, [], none⟩) by
      unfold remD
      rw [hfn, hD1])
    have OKC := Lib.hid (show okC D1.files.length D1.now ⟨3, x, [], none⟩ from .inr (.inr ⟨rfl, rfl⟩))
    clear h ok hfn hD1 hf hf' hg
    go_enter Try.func26, Try.ntmps26
    go_upto_region 3 with (first
        | (go_at_call 42
           refine FN.out.mono ?_
           rintro e w1 ⟨rfl, hx1, hk1, _⟩
           rw [HFN.out]
           simp only [Option.map_some]
           rw [HD1.out] at hx1
           have X1 := Lib.hid hx1
           have K1 := Lib.hid (hk1.mono (fun i hi => by simp at hi; subst hi; exact .inl HIN.out) : Kept G w w1)
           clear hx1 hk1))
    have CH : Hid (Calls Try.prog 41 #[.pointer (some ⟨p, 0, none⟩), .agg #[.int .i64 3, .string (strOf x), .string ⟨#[]⟩, .pointer none]] w1 fun e w4 => e = .returned (.tuple #[]) ∧ DkTo w1 G p fb (chgD D1 ⟨3, x, [], none⟩) w4) := Lib.hid (by
      have CH := change_any X1.out ⟨3, x, [], none⟩ (n := D1.files.length) OKC.out (by rw [← HD1.out]; exact CL.out)
      unfold chC at CH
      simp only [Option.map_none] at CH
      exact CH)
    go_wp2_with (first
      | (go_at_call 41
         with_reducible refine CH.out.mono ?_
         rintro e w4 ⟨rfl, hto⟩
         have T4 := Lib.hid hto
         clear hto))
    go_ret
    refine ⟨by rw [HA.out]; rfl, ?_⟩
    rw [HA.out]
    obtain ⟨G4, bn4, bs4, A4, m4, c4, hx4, hk4, hg4⟩ := T4.out
    exact ⟨fb, G4, bn4, bs4, A4, m4, c4, hx4, K1.out.trans hk4 (fun k hk => .inl hk), fun k hk => (hg4 k hk).elim .inl (fun h3 => .inr (Nat.le_trans K1.out.size h3))⟩
set_option maxRecDepth 100000 in
set_option maxHeartbeats 6400000 in
theorem Rename_any {w : World} {G : List Nat} {p : Nat} {fb : List Nat} {D : DkD} {bn bs : Nat} {A : Option Addr} {m c : Nat} (h : DkX w G p fb D bn bs A m c) (ok : OkI D) (ho : D.ops ≤ 1000000) (x y : Bs) (hy : y.length ≤ 1000000) :
    Calls Try.prog 23 #[.pointer (some ⟨p, 0, none⟩), .string (strOf x), .string (strOf y)] w fun e w' => e = .returned (.int .i64 (renD D x y).1) ∧ DkOp w G p (renD D x y).2 w' := by
  have FN := Lib.hid (find_any h ok.ops ho x)
  have OK1 := Lib.hid (beg_ok ok)
  obtain ⟨sm1, sm2, sm3, sm4, sm5, sm6⟩ := beg_same D
  have HIN := Lib.hid h.inp
  have HGL := Lib.hid h.lt
  have SM := Lib.hid (And.intro sm1 (And.intro sm2 sm4))
  have CL := Lib.hid (show (begD D).2.ch.length ≤ 1000000 by rw [sm4]; have := ok.nl.2.2.1; omega)
  have HNW := Lib.hid ok.now
  have SUR := Lib.hid ok.sure
  obtain ⟨D1, hD1⟩ : ∃ D1, (begD D).2 = D1 := ⟨_, rfl⟩
  clear sm1 sm2 sm3 sm4 sm5 sm6
  rcases fnd_cases D x with ⟨ec, hec, hfn⟩ | ⟨i, hfn, hg⟩
  · have HFN := Lib.hid hfn
    have HD1 := Lib.hid hD1
    have HA := Lib.hid (show renD D x y = (ec, D1) by unfold renD; rw [hfn, hD1])
    have i0 : (ec == 0) = false := by rcases hec with rfl | rfl <;> rfl
    have i0' : (ec != 0) = true := by rcases hec with rfl | rfl <;> rfl
    clear h ok hfn hec hD1
    go_enter Try.func23, Try.ntmps23
    go_wp2_with (first
        | (go_at_call 42
           refine FN.out.mono ?_
           rintro e w1 ⟨rfl, hx1, hk1, _⟩
           rw [HFN.out]
           simp only [Option.map_none]
           rw [HD1.out] at hx1
           have X1 := Lib.hid hx1
           have K1 := Lib.hid (hk1.mono (fun i hi => by simp at hi; subst hi; exact .inl HIN.out) : Kept G w w1)
           clear hx1 hk1))
    go_ret
    exact ⟨by rw [HA.out]; rfl, by rw [HA.out]; exact ⟨fb, DkTo.of X1.out K1.out⟩⟩
  · have hi : i < D1.files.length := by rw [← hD1, SM.out.1]; exact HNW.out (x, i) (getM_mem hg)
    obtain ⟨f, hf⟩ : ∃ f, D1.files[i]? = some f := ⟨_, List.getElem?_eq_getElem hi⟩
    have hf' : D.files[i]? = some f := by rw [← SM.out.1, hD1]; exact hf
    have HFN := Lib.hid hfn
    have HD1 := Lib.hid hD1
    have HF := Lib.hid hf
    have HF' := Lib.hid hf'
    have NM := Lib.hid (fun w' => named_any w' y hy)
    cases hnm : namedD y
    · have HNM := Lib.hid hnm
      have HA := Lib.hid (show renD D x y = (1, D1) by
        unfold renD
        rw [hfn, hD1]
        simp only
        rw [if_pos hnm])
      clear h ok hfn hD1 hf hf' hg hnm
      go_enter Try.func23, Try.ntmps23
      go_wp2_with (first
        | (go_at_call 42
           refine FN.out.mono ?_
           rintro e w1 ⟨rfl, hx1, hk1, _⟩
           rw [HFN.out]
           simp only [Option.map_some]
           rw [HD1.out] at hx1
           have X1 := Lib.hid hx1
           have K1 := Lib.hid (hk1.mono (fun i hi => by simp at hi; subst hi; exact .inl HIN.out) : Kept G w w1)
           clear hx1 hk1)
        | (go_at_call 39
           refine (NM.out _).mono ?_
           rintro e wx ⟨rfl, rfl⟩
           rw [HNM.out]))
      go_ret
      exact ⟨by rw [HA.out]; rfl, by rw [HA.out]; exact ⟨fb, DkTo.of X1.out K1.out⟩⟩
    have HNM := Lib.hid hnm
    by_cases hxy : x = y
    · have HA := Lib.hid (show renD D x y = (0, D1) by
        unfold renD
        rw [hfn, hD1]
        simp only
        rw [if_neg (by rw [hnm]; simp), if_pos hxy])
      have ixy : (x != y) = false := by simp [hxy]
      have ixz : (x == y) = true := by simp [hxy]
      have t1 := strOf_toList x
      have t2 := strOf_toList y
      clear h ok hfn hD1 hf hf' hg hnm hxy
      go_enter Try.func23, Try.ntmps23
      go_wp2_with (first
        | (go_at_call 42
           refine FN.out.mono ?_
           rintro e w1 ⟨rfl, hx1, hk1, _⟩
           rw [HFN.out]
           simp only [Option.map_some]
           rw [HD1.out] at hx1
           have X1 := Lib.hid hx1
           have K1 := Lib.hid (hk1.mono (fun i hi => by simp at hi; subst hi; exact .inl HIN.out) : Kept G w w1)
           clear hx1 hk1)
        | (go_at_call 39
           refine (NM.out _).mono ?_
           rintro e wx ⟨rfl, rfl⟩
           rw [HNM.out]))
      go_ret
      exact ⟨by rw [HA.out]; rfl, by rw [HA.out]; exact ⟨fb, DkTo.of X1.out K1.out⟩⟩
    have HA := Lib.hid (show renD D x y = (0, chgD D1 ⟨2, x, y, none⟩) by
      unfold renD
      rw [hfn, hD1]
      simp only
      rw [if_neg (by rw [hnm]; simp), if_neg hxy])
    have ixy : (x != y) = true := by simp [hxy]
    have ixz : (x == y) = false := by simp [hxy]
    have t1 := strOf_toList x
    have t2 := strOf_toList y
    have OKC := Lib.hid (show okC D1.files.length D1.now ⟨2, x, y, none⟩ from .inr (.inl ⟨rfl, rfl, by rw [← hD1, SM.out.2.1, hg]; rfl, hxy⟩))
    clear h ok hfn hD1 hf hf' hg hnm hxy
    go_enter Try.func23, Try.ntmps23
    go_upto_region 7 with (first
        | (go_at_call 42
           refine FN.out.mono ?_
           rintro e w1 ⟨rfl, hx1, hk1, _⟩
           rw [HFN.out]
           simp only [Option.map_some]
           rw [HD1.out] at hx1
           have X1 := Lib.hid hx1
           have K1 := Lib.hid (hk1.mono (fun i hi => by simp at hi; subst hi; exact .inl HIN.out) : Kept G w w1)
           clear hx1 hk1)
        | (go_at_call 39
           refine (NM.out _).mono ?_
           rintro e wx ⟨rfl, rfl⟩
           rw [HNM.out]))
    have CH : Hid (Calls Try.prog 41 #[.pointer (some ⟨p, 0, none⟩), .agg #[.int .i64 2, .string (strOf x), .string (strOf y), .pointer none]] w1 fun e w4 => e = .returned (.tuple #[]) ∧ DkTo w1 G p fb (chgD D1 ⟨2, x, y, none⟩) w4) := Lib.hid (by
      have CH := change_any X1.out ⟨2, x, y, none⟩ (n := D1.files.length) OKC.out (by rw [← HD1.out]; exact CL.out)
      unfold chC at CH
      simp only [Option.map_none] at CH
      exact CH)
    go_wp2_with (first
      | (go_at_call 41
         with_reducible refine CH.out.mono ?_
         rintro e w4 ⟨rfl, hto⟩
         have T4 := Lib.hid hto
         clear hto))
    go_ret
    refine ⟨by rw [HA.out]; rfl, ?_⟩
    rw [HA.out]
    obtain ⟨G4, bn4, bs4, A4, m4, c4, hx4, hk4, hg4⟩ := T4.out
    exact ⟨fb, G4, bn4, bs4, A4, m4, c4, hx4, K1.out.trans hk4 (fun k hk => .inl hk), fun k hk => (hg4 k hk).elim .inl (fun h3 => .inr (Nat.le_trans K1.out.size h3))⟩
set_option maxRecDepth 100000 in
set_option maxHeartbeats 6400000 in
theorem Cut_any {w : World} {G : List Nat} {p : Nat} {fb : List Nat} {D : DkD} {bn bs : Nat} {A : Option Addr} {m c : Nat} (h : DkX w G p fb D bn bs A m c) (ok : OkI D) (ho : D.ops ≤ 1000000) (x : Bs) (n : Int) :
    Calls Try.prog 27 #[.pointer (some ⟨p, 0, none⟩), .string (strOf x), .int .i64 n] w fun e w' => e = .returned (.int .i64 (cutD D x n).1) ∧ DkOp w G p (cutD D x n).2 w' := by
  have FN := Lib.hid (find_any h ok.ops ho x)
  have OK1 := Lib.hid (beg_ok ok)
  obtain ⟨sm1, sm2, sm3, sm4, sm5, sm6⟩ := beg_same D
  have HIN := Lib.hid h.inp
  have HGL := Lib.hid h.lt
  have SM := Lib.hid (And.intro sm1 (And.intro sm2 sm4))
  have CL := Lib.hid (show (begD D).2.ch.length ≤ 1000000 by rw [sm4]; have := ok.nl.2.2.1; omega)
  have HNW := Lib.hid ok.now
  have SUR := Lib.hid ok.sure
  obtain ⟨D1, hD1⟩ : ∃ D1, (begD D).2 = D1 := ⟨_, rfl⟩
  clear sm1 sm2 sm3 sm4 sm5 sm6
  rcases fnd_cases D x with ⟨ec, hec, hfn⟩ | ⟨i, hfn, hg⟩
  · have HFN := Lib.hid hfn
    have HD1 := Lib.hid hD1
    have HA := Lib.hid (show cutD D x n = (ec, D1) by unfold cutD; rw [hfn, hD1])
    have i0 : (ec == 0) = false := by rcases hec with rfl | rfl <;> rfl
    have i0' : (ec != 0) = true := by rcases hec with rfl | rfl <;> rfl
    clear h ok hfn hec hD1
    go_enter Try.func27, Try.ntmps27
    go_wp2_with (first
        | (go_at_call 42
           refine FN.out.mono ?_
           rintro e w1 ⟨rfl, hx1, hk1, _⟩
           rw [HFN.out]
           simp only [Option.map_none]
           rw [HD1.out] at hx1
           have X1 := Lib.hid hx1
           have K1 := Lib.hid (hk1.mono (fun i hi => by simp at hi; subst hi; exact .inl HIN.out) : Kept G w w1)
           clear hx1 hk1))
    go_ret
    exact ⟨by rw [HA.out]; rfl, by rw [HA.out]; exact ⟨fb, DkTo.of X1.out K1.out⟩⟩
  · have hi : i < D1.files.length := by rw [← hD1, SM.out.1]; exact HNW.out (x, i) (getM_mem hg)
    obtain ⟨f, hf⟩ : ∃ f, D1.files[i]? = some f := ⟨_, List.getElem?_eq_getElem hi⟩
    have hf' : D.files[i]? = some f := by rw [← SM.out.1, hD1]; exact hf
    have HFN := Lib.hid hfn
    have HD1 := Lib.hid hD1
    have HF := Lib.hid hf
    have HF' := Lib.hid hf'
    have LF := Lib.hid (lenF_get hf')
    by_cases hbad : n < 0 ∨ (f.b.length : Int) < n
    · have HA := Lib.hid (show cutD D x n = (1, D1) by
        unfold cutD
        rw [hfn, hD1]
        simp only
        rw [LF.out, if_pos hbad])
      have hways : n < 0 ∨ (¬ n < 0 ∧ (f.b.length : Int) < n) := by omega
      clear h ok hfn hD1 hf hf' hg hbad
      rcases hways with i1 | ⟨i1, i2⟩
      · go_enter Try.func27, Try.ntmps27
        go_wp2_with (first
        | (go_at_call 42
           refine FN.out.mono ?_
           rintro e w1 ⟨rfl, hx1, hk1, _⟩
           rw [HFN.out]
           simp only [Option.map_some]
           rw [HD1.out] at hx1
           have X1 := Lib.hid hx1
           have K1 := Lib.hid (hk1.mono (fun i hi => by simp at hi; subst hi; exact .inl HIN.out) : Kept G w w1)
           clear hx1 hk1))
        go_ret
        exact ⟨by rw [HA.out]; rfl, by rw [HA.out]; exact ⟨fb, DkTo.of X1.out K1.out⟩⟩
      · go_enter Try.func27, Try.ntmps27
        go_upto_region 4 with (first
        | (go_at_call 42
           refine FN.out.mono ?_
           rintro e w1 ⟨rfl, hx1, hk1, _⟩
           rw [HFN.out]
           simp only [Option.map_some]
           rw [HD1.out] at hx1
           have X1 := Lib.hid hx1
           have K1 := Lib.hid (hk1.mono (fun i hi => by simp at hi; subst hi; exact .inl HIN.out) : Kept G w w1)
           clear hx1 hk1))
        obtain ⟨A2, c2, _, hgG, hfb, hfo, hfr⟩ := X1.out.fs.get HF.out
        have FBK := Lib.hid hfb
        have FO := Lib.hid hfo
        have FR := Lib.hid hfr
        obtain ⟨g, hgg⟩ : ∃ g, fbA fb i = g := ⟨_, rfl⟩
        have HGG := Lib.hid hgg
        rw [hgg] at FBK hgG
        simp only [hgg]
        have hc := FBK.out.cell
        have hff := FBK.out.frozen
        have hl := FBK.out.lt
        clear hfb hfo hfr hgg
        go_wp2
        go_ret
        exact ⟨by rw [HA.out]; rfl, by rw [HA.out]; exact ⟨fb, DkTo.of X1.out K1.out⟩⟩
    obtain ⟨k, rfl⟩ : ∃ k : Nat, n = k := ⟨n.toNat, by omega⟩
    have hkn : k ≤ f.b.length := by omega
    have HA := Lib.hid (show cutD D x (k : Nat) = (0, { D1 with files := D1.files.set i ⟨f.b.take k, k⟩ }) by
      unfold cutD
      rw [hfn, hD1]
      simp only
      rw [LF.out, if_neg hbad, hf', ← SM.out.1, hD1]
      rfl)
    have i1 : ¬ (k : Int) < 0 := by omega
    have i2 : ¬ (f.b.length : Int) < (k : Int) := by omega
    clear h ok hfn hD1 hf hf' hg hbad
    go_enter Try.func27, Try.ntmps27
    go_upto_region 4 with (first
        | (go_at_call 42
           refine FN.out.mono ?_
           rintro e w1 ⟨rfl, hx1, hk1, _⟩
           rw [HFN.out]
           simp only [Option.map_some]
           rw [HD1.out] at hx1
           have X1 := Lib.hid hx1
           have K1 := Lib.hid (hk1.mono (fun i hi => by simp at hi; subst hi; exact .inl HIN.out) : Kept G w w1)
           clear hx1 hk1))
    obtain ⟨A2, c2, _, hgG, hfb, hfo, hfr⟩ := X1.out.fs.get HF.out
    have FBK := Lib.hid hfb
    have FO := Lib.hid hfo
    have FR := Lib.hid hfr
    obtain ⟨g, hgg⟩ : ∃ g, fbA fb i = g := ⟨_, rfl⟩
    have HGG := Lib.hid hgg
    rw [hgg] at FBK hgG
    simp only [hgg]
    have hc := FBK.out.cell
    have hff := FBK.out.frozen
    have hl := FBK.out.lt
    clear hfb hfo hfr hgg
    have hcap := FO.out.form
    obtain ⟨A3, c3, hv3, hc3, hc4⟩ := hcap
    injection hv3 with e1 e2 e3
    subst e1 e3
    clear e2
    have j0 : (0 : Int) ≤ (k : Int) := by omega
    have j1 : (k : Int) ≤ (c2 : Int) := by omega
    unfold maxLen at hc4
    have LK := Lib.hid (show (f.b.take k).length = k by rw [List.length_take]; omega)
    have OC : Hid (Own w1 5 1 (.slice A2 k c2) (f.b.take k).length (u8s (f.b.take k)) ∧ ∀ q ∈ rowOf (.slice A2 k c2), q ∈ rowOf (.slice A2 f.b.length c2)) := Lib.hid (by
      refine ⟨?_, fun q hq => by cases A2 <;> exact hq⟩
      rw [LK.out]
      rcases Nat.eq_zero_or_pos f.b.length with h0 | h0
      · have hk0 : k = 0 := by omega
        have hf0 : f.b.take k = [] := by rw [hk0, List.take_zero]
        rw [hf0]
        have hfo := FO.out
        rw [h0] at hfo
        subst hk0
        have hb0 : f.b = [] := List.eq_nil_of_length_eq_zero h0
        rw [hb0] at hfo
        exact hfo
      · have := Own.cut1 FO.out hkn h0
        rw [Nat.mul_one] at this
        rw [show u8s (f.b.take k) = (u8s f.b).take k by simp [u8s, List.map_take]]
        exact this)
    go_wp2
    go_ret
    refine ⟨by rw [HA.out]; rfl, ?_⟩
    rw [HA.out]
    have kE : Kept [g] w1 ((w1.setCell ⟨g, 0, none⟩ (.slice A2 k c2)).setCell ⟨g, 1, none⟩ (.int .i64 (k : Nat))) := ((Kept.refl _ _).setCell (.inl (by simp)) _).setCell (.inl (by simp)) _
    have hX := X1.out.file (f' := ⟨f.b.take k, k⟩) HF.out (by rw [HGG.out]; exact FBK.out) FO.out (by rw [HGG.out]; exact kE.mono (fun k hk => .inl (by simp at hk; subst hk; exact List.mem_cons_self))) (by rw [HGG.out]; exact (FBK.out.set 0 _).set 1 _) (OC.out.1.kept kE (fun k hk hm => by simp at hm; subst hm; exact FO.out.ne_blk FBK.out (by decide) (OC.out.2 _ hk))) (fun k hk => .inl (OC.out.2 k hk))
    refine ⟨fb, _, _, _, _, _, _, hX, K1.out.trans kE (fun k hk => .inl (by simp at hk; subst hk; exact hgG)), fun k hk => ?_⟩
    rcases List.mem_append.1 hk with hk | hk
    · exact .inl (FR.out k (OC.out.2 k hk))
    · exact .inl hk
end Go.Proofs.Ythdjdfdefibepaa
