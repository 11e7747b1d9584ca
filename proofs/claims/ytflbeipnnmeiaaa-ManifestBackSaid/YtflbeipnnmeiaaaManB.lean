
/-
  The contracts of slices.Equal on ints, of manifest.Same, of the law's own same.
-/
import Derived.Test.YtflbeipnnmeiaaaManA
import Derived.BigQuiet
namespace Go.Proofs.Ytflbeipnnmeiaaa
open Go.RowKit Go.ChangeShapes Go.WideShapes Go.Deep
set_option linter.unusedVariables false

theorem eqL_drop {l l' : List Int} {k : Nat} (h : k < l.length) (h' : k < l'.length) : (l.drop k == l'.drop k) = ((l[k] == l'[k]) && (l.drop (k + 1) == l'.drop (k + 1))) := by
  rw [← List.getElem_cons_drop (h := h), ← List.getElem_cons_drop (h := h')]; rfl
theorem eqL_len {l l' : List Int} (h : l.length ≠ l'.length) : (l == l') = false := by
  rw [beq_eq_false_iff_ne]; rintro rfl; exact h rfl
set_option maxHeartbeats 1600000 in
theorem EqualI_any (w : World) {G1 G2 : List Nat} {A B : Option Addr} {m c n d : Nat} (l l' : List Int) (h1 : IntArr w G1 (.slice A m c) l) (h2 : IntArr w G2 (.slice B n d) l') :
    Calls Try.prog 31 #[.slice A m c, .slice B n d] w fun e w' => e = .returned (.bool (l == l')) ∧ Kept [] w w' := by
  obtain ⟨a1, a2, a3, a4⟩ := h1.lens
  obtain ⟨b1, b2, b3, b4⟩ := h2.lens
  have H1 := Lib.hid (IntArr.kept h1 (Kept.refl [] w) (by simp))
  have H2 := Lib.hid (IntArr.kept h2 (Kept.refl [] w) (by simp))
  have A1 := Lib.hid a1
  have B1 := Lib.hid b1
  unfold maxLen at a3 b3
  clear h1 h2 a4 b4
  by_cases hmn : m = n
  · subst hmn
    clear a1 b1
    go_enter Try.func31, Try.ntmps31
    go_wp2
    go_loopg [13] m (fun g i wr => ∃ k : Nat, k ≤ m ∧ g = m - k ∧ i = .int .i64 k ∧ (l == l') = (l.drop k == l'.drop k) ∧ Kept [] w wr)
    case atStart => exact ⟨0, by omega, by omega, rfl, by simp, Kept.refl _ _⟩
    case round =>
      obtain ⟨k, hk, rfl, rfl, hs, hkw⟩ := hrel
      have Hs := Lib.hid hs
      have Hkw := Lib.hid hkw
      clear hs hkw
      by_cases hlt : k < m
      · have hkl : k < l.length := by rw [A1.out]; exact hlt
        have hkl' : k < l'.length := by rw [B1.out]; exact hlt
        obtain ⟨g, o, rfl, hg, hgG, c0, -⟩ := (IntArr.kept H1.out Hkw.out (by simp)).at (k := k) hkl
        obtain ⟨g', o', rfl, hg', hgG', c0', -⟩ := (IntArr.kept H2.out Hkw.out (by simp)).at (k := k) hkl'
        have Hd := Lib.hid (eqL_drop (l := l) (l' := l') hkl hkl')
        generalize l[k]'hkl = f at *
        generalize l'[k]'hkl' = f' at *
        clear hkl hkl'
        have i0 : (0 : Int) ≤ (k : Int) := by omega
        have i1 : (k : Int) < (m : Int) := by omega
        cases hsf : (f == f')
        · have hres := Lib.hid (show (l == l') = false by rw [Hs.out, Hd.out, hsf]; rfl)
          have hsn : (f != f') = true := by simp [bne, hsf]
          go_wp2
          go_quiet (fail)
          clear c0 c0'
          go_wp2
          go_ret
          exact ⟨by rw [hres.out]; rfl, Hkw.out.drewN _⟩
        · have hres := Lib.hid (show (l == l') = (l.drop (k + 1) == l'.drop (k + 1)) by rw [Hs.out, Hd.out, hsf]; rfl)
          have hsn : (f != f') = false := by simp [bne, hsf]
          go_wp2
          go_quiet (fail)
          clear c0 c0'
          go_wp2
          go_roundg (m - (k + 1))
          case measure => omega
          case rel => exact ⟨k + 1, by omega, rfl, by go_num, hres.out, Hkw.out.drewN _⟩
      · have hres := Lib.hid (show (l == l') = true by
          rw [Hs.out, List.drop_of_length_le (by rw [A1.out]; omega), List.drop_of_length_le (by rw [B1.out]; omega)]; rfl)
        have i1 : ¬ (k : Int) < (m : Int) := by omega
        go_wp2
        go_ret
        exact ⟨by rw [hres.out]; rfl, Hkw.out⟩
  · have hres := Lib.hid (show (l == l') = false from eqL_len (by rw [A1.out, B1.out]; exact hmn))
    have hne : (((m : Nat) : Int) != ((n : Nat) : Int)) = true := by simp; omega
    clear hmn
    go_enter Try.func31, Try.ntmps31
    go_wp2
    go_ret
    exact ⟨by rw [hres.out]; rfl, Kept.refl _ _⟩
set_option maxHeartbeats 1600000 in
theorem mSame_any (w : World) {G1 G2 : List Nat} {A B : Option Addr} {m c n d : Nat} (x y : ManD) (h1 : IntArr w G1 (.slice A m c) x.segs) (h2 : IntArr w G2 (.slice B n d) y.segs) :
    Calls Try.prog 13 #[.agg #[.int .i64 x.ver, .int .i64 x.next, .slice A m c], .agg #[.int .i64 y.ver, .int .i64 y.next, .slice B n d]] w fun e w' => e = .returned (.bool (sameM x y)) ∧ Kept [] w w' := by
  have hk0 : Kept [] w ((w.alloc (.cells #[.int .i64 x.ver, .int .i64 x.next, .slice A m c] 24)).alloc (.cells #[.int .i64 y.ver, .int .i64 y.next, .slice B n d] 24)) := by (repeat (first | exact Kept.refl _ _ | apply Kept.alloc | apply Kept.drew))
  obtain ⟨a1, a2, a3, a4⟩ := h1.lens
  obtain ⟨b1, b2, b3, b4⟩ := h2.lens
  have H1 := Lib.hid (IntArr.kept h1 hk0 (by simp))
  have H2 := Lib.hid (IntArr.kept h2 hk0 (by simp))
  have A1 := Lib.hid a1
  have B1 := Lib.hid b1
  have K := Lib.hid hk0
  unfold maxLen at a3 b3
  clear h1 h2 a4 b4 hk0 a1 b1
  cases e1 : (x.ver == y.ver)
  · have HR := Lib.hid (show sameM x y = false by simp [sameM, e1])
    have n1 : (x.ver != y.ver) = true := by simp [bne, e1]
    go_enter Try.func13, Try.ntmps13
    go_wp2
    go_ret
    exact ⟨ret_bool (by rw [HR.out]), K.out⟩
  have n1 : (x.ver != y.ver) = false := by simp [bne, e1]
  cases e2 : (x.next == y.next)
  · have HR := Lib.hid (show sameM x y = false by simp [sameM, e2])
    have n2 : (x.next != y.next) = true := by simp [bne, e2]
    go_enter Try.func13, Try.ntmps13
    go_wp2
    go_ret
    exact ⟨ret_bool (by rw [HR.out]), K.out⟩
  have n2 : (x.next != y.next) = false := by simp [bne, e2]
  have HR := Lib.hid (show sameM x y = (x.segs == y.segs) by simp only [sameM, e1, e2, Bool.true_and])
  go_enter Try.func13, Try.ntmps13
  go_wp2_with (go_at_call 31; refine (EqualI_any _ _ _ H1.out H2.out).mono ?_; rintro e w1 ⟨rfl, k1⟩; have K := Lib.hid (K.out.trans k1 (by simp)); clear k1)
  go_ret
  exact ⟨ret_bool (by rw [HR.out]), K.out⟩
set_option maxHeartbeats 1600000 in
theorem same5_any (w : World) {G1 G2 : List Nat} {A B : Option Addr} {m c n d : Nat} (x y : ManD) (h1 : IntArr w G1 (.slice A m c) x.segs) (h2 : IntArr w G2 (.slice B n d) y.segs) :
    Calls Try.prog 11 #[.agg #[.int .i64 x.ver, .int .i64 x.next, .slice A m c], .agg #[.int .i64 y.ver, .int .i64 y.next, .slice B n d]] w fun e w' => e = .returned (.bool (sameM x y)) ∧ Kept [] w w' := by
  have hk0 : Kept [] w ((w.alloc (.cells #[.int .i64 x.ver, .int .i64 x.next, .slice A m c] 24)).alloc (.cells #[.int .i64 y.ver, .int .i64 y.next, .slice B n d] 24)) := by (repeat (first | exact Kept.refl _ _ | apply Kept.alloc | apply Kept.drew))
  obtain ⟨a1, a2, a3, a4⟩ := h1.lens
  obtain ⟨b1, b2, b3, b4⟩ := h2.lens
  have H1 := Lib.hid (IntArr.kept h1 hk0 (by simp))
  have H2 := Lib.hid (IntArr.kept h2 hk0 (by simp))
  have A1 := Lib.hid a1
  have B1 := Lib.hid b1
  have K := Lib.hid hk0
  unfold maxLen at a3 b3
  clear h1 h2 a4 b4 hk0 a1 b1
  cases e1 : (x.ver == y.ver)
  · have HR := Lib.hid (show sameM x y = false by simp [sameM, e1])
    have n1 : (x.ver != y.ver) = true := by simp [bne, e1]
    go_enter Try.func11, Try.ntmps11
    go_wp2
    go_ret
    exact ⟨ret_bool (by rw [HR.out]), K.out⟩
  have n1 : (x.ver != y.ver) = false := by simp [bne, e1]
  cases e2 : (x.next == y.next)
  · have HR := Lib.hid (show sameM x y = false by simp [sameM, e2])
    have n2 : (x.next != y.next) = true := by simp [bne, e2]
    go_enter Try.func11, Try.ntmps11
    go_wp2
    go_ret
    exact ⟨ret_bool (by rw [HR.out]), K.out⟩
  have n2 : (x.next != y.next) = false := by simp [bne, e2]
  have HR := Lib.hid (show sameM x y = (x.segs == y.segs) by simp only [sameM, e1, e2, Bool.true_and])
  by_cases hmn : m = n
  · subst hmn
    have P := Lib.hid (show Blk ((w.alloc (.cells #[.int .i64 x.ver, .int .i64 x.next, .slice A m c] 24)).alloc (.cells #[.int .i64 y.ver, .int .i64 y.next, .slice B m d] 24)) w.heap.size 24 #[.int .i64 x.ver, .int .i64 x.next, .slice A m c] from by (repeat (first | (apply Blk.new'; simp; done) | apply Blk.alloc | apply Blk.drew)))
    have Q := Lib.hid (show Blk ((w.alloc (.cells #[.int .i64 x.ver, .int .i64 x.next, .slice A m c] 24)).alloc (.cells #[.int .i64 y.ver, .int .i64 y.next, .slice B m d] 24)) (w.heap.size + 1) 24 #[.int .i64 y.ver, .int .i64 y.next, .slice B m d] from by (repeat (first | (apply Blk.new'; simp; done) | apply Blk.alloc | apply Blk.drew)))
    go_enter Try.func11, Try.ntmps11
    go_wp2
    go_loopg [30] m (fun g i wr => ∃ k : Nat, k ≤ m ∧ g = m - k ∧ i = .int .i64 k ∧ (x.segs == y.segs) = (x.segs.drop k == y.segs.drop k) ∧ Kept [] ((w.alloc (.cells #[.int .i64 x.ver, .int .i64 x.next, .slice A m c] 24)).alloc (.cells #[.int .i64 y.ver, .int .i64 y.next, .slice B m d] 24)) wr)
    case atStart => exact ⟨0, by omega, by omega, rfl, by simp, Kept.refl _ _⟩
    case round =>
      obtain ⟨k, hk, rfl, rfl, hs, hkw⟩ := hrel
      have Hs := Lib.hid hs
      have Hkw := Lib.hid hkw
      have hcx := (P.out.kept hkw (by simp)).cell
      have hcy := (Q.out.kept hkw (by simp)).cell
      clear hs hkw
      by_cases hlt : k < m
      · have hkl : k < x.segs.length := by rw [A1.out]; exact hlt
        have hkl' : k < y.segs.length := by rw [B1.out]; exact hlt
        obtain ⟨g, o, rfl, hg, hgG, c0, -⟩ := (IntArr.kept H1.out Hkw.out (by simp)).at (k := k) hkl
        obtain ⟨g', o', rfl, hg', hgG', c0', -⟩ := (IntArr.kept H2.out Hkw.out (by simp)).at (k := k) hkl'
        have Hd := Lib.hid (eqL_drop (l := x.segs) (l' := y.segs) hkl hkl')
        generalize x.segs[k]'hkl = f at *
        generalize y.segs[k]'hkl' = f' at *
        clear hkl hkl'
        have i0 : (0 : Int) ≤ (k : Int) := by omega
        have i1 : (k : Int) < (m : Int) := by omega
        cases hsf : (f == f')
        · have hres := Lib.hid (show (x.segs == y.segs) = false by rw [Hs.out, Hd.out, hsf]; rfl)
          have hsn : (f != f') = true := by simp [bne, hsf]
          go_wp2
          go_quiet (fail)
          clear c0 c0' hcx hcy
          go_wp2
          go_ret
          exact ⟨ret_bool (by rw [HR.out, hres.out]), (K.out.trans Hkw.out (by simp)).drewN _⟩
        · have hres := Lib.hid (show (x.segs == y.segs) = (x.segs.drop (k + 1) == y.segs.drop (k + 1)) by rw [Hs.out, Hd.out, hsf]; rfl)
          have hsn : (f != f') = false := by simp [bne, hsf]
          go_wp2
          go_quiet (fail)
          clear c0 c0' hcx hcy
          go_wp2
          go_roundg (m - (k + 1))
          case measure => omega
          case rel => exact ⟨k + 1, by omega, rfl, by go_num, hres.out, Hkw.out.drewN _⟩
      · have hres := Lib.hid (show (x.segs == y.segs) = true by
          rw [Hs.out, List.drop_of_length_le (by rw [A1.out]; omega), List.drop_of_length_le (by rw [B1.out]; omega)]; rfl)
        have i1 : ¬ (k : Int) < (m : Int) := by omega
        go_wp2
        go_ret
        exact ⟨ret_bool (by rw [HR.out, hres.out]), K.out.trans Hkw.out (by simp)⟩
  · have hres := Lib.hid (show (x.segs == y.segs) = false from eqL_len (by rw [A1.out, B1.out]; exact hmn))
    have hne : (((m : Nat) : Int) != ((n : Nat) : Int)) = true := by simp; omega
    clear hmn
    go_enter Try.func11, Try.ntmps11
    go_wp2
    go_ret
    exact ⟨ret_bool (by rw [HR.out, hres.out]), K.out⟩
end Go.Proofs.Ytflbeipnnmeiaaa
