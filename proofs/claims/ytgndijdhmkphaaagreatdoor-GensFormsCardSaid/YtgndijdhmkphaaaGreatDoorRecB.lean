/-
  Contracts on rows of backends: is one no backend; copied; the same.
-/
import Derived.BigQuiet
import Derived.Laws.StructEq
import Derived.Test.YtgndijdhmkphaaaGreatDoorRecA
namespace Go.Proofs.YtgndijdhmkphaaaGreatDoor
set_option linter.unusedVariables false
section
open Go.RowKit Go.ChangeShapes Go.WideShapes Go.Deep
set_option maxRecDepth 100000
theorem eql_nilB : ∀ (w : World) (a : Option Addr) (n c n' c' : Nat), (binOp .eql 22 (.slice a n c) (.slice none n' c')).run Tryz.prog w = .ok (.bool a.isNone) w :=
  fun w a n c n' c' => Lib.run_eql_slice_nil w _ _ a n c n' c' Tryz.underlying22
set_option maxHeartbeats 800000 in
theorem CloneB_any (w : World) {G : List Nat} {A : Option Addr} {m c : Nat} (l : List BackD) (h : BkArr w G (.slice A m c) l) (hG : ∀ k ∈ G, k < w.heap.size) (hm : m ≤ 1099511627776) :
    Calls Tryz.prog 33 #[.slice A m c] w fun e w' => ∃ v, e = .returned v ∧ BkV w w' v l := by
  obtain ⟨x1, x2, x3, css, e3, l3, y1, y2, y3, dd, ln, rd⟩ := ArrOf.decs h
  injection e3 with e31 e32 e33
  subst e31 e32 e33
  cases A with
  | none =>
    obtain ⟨rfl, rfl⟩ := y3 rfl
    obtain rfl : l = [] := List.eq_nil_of_length_eq_zero l3
    have hq := eql_nilB
    clear h l3 y1 y2 y3 dd ln rd
    go_enter Tryz.func33, Tryz.ntmps33
    go_wp2
    go_ret
    exact ⟨_, rfl, LV.nil (Kept.refl _ _)⟩
  | some a =>
    have D := Lib.hid (dd.kept BkOk ((Kept.refl [] w).alloc (.cells #[] 27)) (by simp))
    have R := Lib.hid (rd.alloc (.cells #[] 27))
    have Ln := Lib.hid (show css.flatten.length = m * 3 by rw [flat_len ln, dd.1, l3])
    have L := Lib.hid l3
    have HG := Lib.hid hG
    have hq := eql_nilB
    clear h l3 y1 y2 y3 dd ln rd hG
    go_enter Tryz.func33, Tryz.ntmps33
    go_wp2_with (at_builtin
                 refine wpList_app _ rfl (.tmp 5) (.tmp 6) 22 rfl elem_back (by rfl) (World.ownsRow_made w #[] 0 (Nat.zero_le _) (by unfold maxLen; omega) rfl) (by rfl) R.out Ln.out (D.out.ones BkOk) (by unfold maxLen; omega) (by omega) ?_
                 intro v2 w2 ho2 hk2 hr2
                 have hx := LVx.app (W := w) (w := w.alloc (.cells #[] 27)) (w1 := w.alloc (.cells #[] 27)) BkOk (css := []) (G := []) (l := []) ⟨World.ownsRow_made w #[] 0 (Nat.zero_le _) (by unfold maxLen; omega) rfl, fun k hk => by simp [rowOf, Value.ownBlock] at hk; omega, Decs.nil, by simp, (Kept.refl _ _).alloc _⟩ (Kept.refl _ _) D.out (fun k hk => ⟨fun hm => by have := HG.out k hk; simp [rowOf, Value.ownBlock] at hm; omega, Nat.lt_of_lt_of_le (HG.out k hk) (by simp)⟩) ho2 (by simp [L.out]) rfl hk2 hr2
                 have Hx := Lib.hid hx
                 clear hx ho2 hk2 hr2)
    go_ret
    exact ⟨v2, rfl, _, _, Hx.out⟩
theorem u32_cast (a b : UInt32) : (((a.toNat : Nat) : Int) == ((b.toNat : Nat) : Int)) = (a == b) := by
  rw [Bool.eq_iff_iff]; simp [← UInt32.toNat_inj]; omega
theorem eqB_run (f g : BackD) (w : World) : (Op.equalIn 10000 27 (.agg #[.int .i64 f.id, .int .u32 (f.addr.toNat : Nat), .int .i64 f.weight]) (.agg #[.int .i64 g.id, .int .u32 (g.addr.toNat : Nat), .int .i64 g.weight])).run Tryz.prog w = .ok (sameB f g) w := by
  have u3 := Tryz.underlying3
  have u22 := Tryz.underlying25
  have a3 := Tryz.isAgg3
  have z3 := Tryz.sizeOf3
  have a22 := Tryz.isAgg25
  have z22 := Tryz.sizeOf25
  have hS : Tryz.prog.underlying 27 = some (.struct (Tryz.prog.fieldsOf 27)) := by kernel_rfl
  have hp : Tryz.prog.stoodInHeld 27 = false := by kernel_rfl
  rw [show (10000 : Nat) = 9999 + 1 from rfl, run_equalIn_agg w 9999 27 _ _ hS hp]
  simp only [Program.fieldsOf, Tryz.underlying27]
  go_simp
  have e := u32_cast f.addr g.addr
  unfold sameB
  cases h1 : f.id == g.id <;> cases h2 : f.addr == g.addr <;> cases h3 : f.weight == g.weight <;> rw [h2] at e <;> simp_all
set_option maxHeartbeats 1600000 in
theorem EqualB_any (w : World) {G1 G2 : List Nat} {A B : Option Addr} {m c n d : Nat} (l l' : List BackD) (h1 : BkArr w G1 (.slice A m c) l) (h2 : BkArr w G2 (.slice B n d) l') :
    Calls Tryz.prog 42 #[.slice A m c, .slice B n d] w fun e w' => e = .returned (.bool (sameBs l l')) ∧ Kept [] w w' := by
  obtain ⟨a1, a2, a3, a4⟩ := h1.len
  obtain ⟨b1, b2, b3, b4⟩ := h2.len
  have H1 := Lib.hid h1
  have H2 := Lib.hid h2
  have A1 := Lib.hid a1
  have B1 := Lib.hid b1
  clear h1 h2 a1 b1 a4 b4
  unfold maxLen at a3 b3
  by_cases hmn : m = n
  · subst hmn
    go_enter Tryz.func42, Tryz.ntmps42
    go_wp2
    go_loopg [13] m (fun g i wr => ∃ k : Nat, k ≤ m ∧ g = m - k ∧ i = .int .i64 k ∧ sameBs l l' = sameBs (l.drop k) (l'.drop k) ∧ Kept [] w wr)
    case atStart => exact ⟨0, by omega, by omega, rfl, by simp, Kept.refl _ _⟩
    case round =>
      obtain ⟨k, hk, rfl, rfl, hs, hkw⟩ := hrel
      have Hs := Lib.hid hs
      have Hkw := Lib.hid hkw
      clear hs hkw
      by_cases hlt : k < m
      · have hkl : k < l.length := by rw [A1.out]; exact hlt
        have hkl' : k < l'.length := by rw [B1.out]; exact hlt
        obtain ⟨g, o, rfl, hg, hgG, c0, c1, c2⟩ := (BkArr.kept H1.out Hkw.out (by simp)).at (k := k) hkl
        obtain ⟨g', o', rfl, hg', hgG', c0', c1', c2'⟩ := (BkArr.kept H2.out Hkw.out (by simp)).at (k := k) hkl'
        have Hd := Lib.hid (sameBs_drop (l := l) (l' := l') hkl hkl')
        generalize l[k]'hkl = f at *
        generalize l'[k]'hkl' = f' at *
        clear hkl hkl'
        have i0 : (0 : Int) ≤ (k : Int) := by omega
        have i1 : (k : Int) < (m : Int) := by omega
        have hq := eqB_run f f'
        have hg : Tryz.prog.eqGuardType Tryz.prog.depth 27 = false := by kernel_rfl
        go_wp2
        go_quiet (fail)
        clear hq hg c0 c1 c2 c0' c1' c2'
        cases hsf : sameB f f'
        · have hres := Lib.hid (show sameBs l l' = false by rw [Hs.out, Hd.out, hsf]; rfl)
          go_wp2
          go_ret
          exact ⟨by rw [hres.out]; rfl, Hkw.out.drewN _⟩
        · have hres := Lib.hid (show sameBs l l' = sameBs (l.drop (k + 1)) (l'.drop (k + 1)) by rw [Hs.out, Hd.out, hsf]; rfl)
          go_wp2
          go_roundg (m - (k + 1))
          case measure => omega
          case rel => exact ⟨k + 1, by omega, rfl, by go_num, hres.out, Hkw.out.drewN _⟩
      · have hres := Lib.hid (show sameBs l l' = true by
          rw [Hs.out, List.drop_of_length_le (by rw [A1.out]; omega), List.drop_of_length_le (by rw [B1.out]; omega)]; rfl)
        go_wp2
        go_ret
        exact ⟨by rw [hres.out]; rfl, Hkw.out⟩
  · have hres := Lib.hid (show sameBs l l' = false from sameBs_len (by rw [A1.out, B1.out]; exact hmn))
    have hne : (((m : Nat) : Int) != ((n : Nat) : Int)) = true := by simp; omega
    clear hmn
    go_enter Tryz.func42, Tryz.ntmps42
    go_wp2
    go_ret
    exact ⟨by rw [hres.out]; rfl, Kept.refl _ _⟩
set_option maxHeartbeats 1600000 in
theorem rSameBs_any (w : World) {G1 G2 : List Nat} {A B : Option Addr} {m c n d : Nat} (l l' : List BackD) (h1 : BkArr w G1 (.slice A m c) l) (h2 : BkArr w G2 (.slice B n d) l') :
    Calls Tryz.prog 9 #[.slice A m c, .slice B n d] w fun e w' => e = .returned (.bool (sameBs l l')) ∧ Kept [] w w' := by
  obtain ⟨a1, a2, a3, a4⟩ := h1.len
  obtain ⟨b1, b2, b3, b4⟩ := h2.len
  have H1 := Lib.hid h1
  have H2 := Lib.hid h2
  have A1 := Lib.hid a1
  have B1 := Lib.hid b1
  clear h1 h2 a1 b1 a4 b4
  unfold maxLen at a3 b3
  by_cases hmn : m = n
  · subst hmn
    go_enter Tryz.func9, Tryz.ntmps9
    go_wp2
    go_loopg [13] m (fun g i wr => ∃ k : Nat, k ≤ m ∧ g = m - k ∧ i = .int .i64 k ∧ sameBs l l' = sameBs (l.drop k) (l'.drop k) ∧ Kept [] w wr)
    case atStart => exact ⟨0, by omega, by omega, rfl, by simp, Kept.refl _ _⟩
    case round =>
      obtain ⟨k, hk, rfl, rfl, hs, hkw⟩ := hrel
      have Hs := Lib.hid hs
      have Hkw := Lib.hid hkw
      clear hs hkw
      by_cases hlt : k < m
      · have hkl : k < l.length := by rw [A1.out]; exact hlt
        have hkl' : k < l'.length := by rw [B1.out]; exact hlt
        obtain ⟨g, o, rfl, hg, hgG, c0, c1, c2⟩ := (BkArr.kept H1.out Hkw.out (by simp)).at (k := k) hkl
        obtain ⟨g', o', rfl, hg', hgG', c0', c1', c2'⟩ := (BkArr.kept H2.out Hkw.out (by simp)).at (k := k) hkl'
        have Hd := Lib.hid (sameBs_drop (l := l) (l' := l') hkl hkl')
        generalize l[k]'hkl = f at *
        generalize l'[k]'hkl' = f' at *
        clear hkl hkl'
        have i0 : (0 : Int) ≤ (k : Int) := by omega
        have i1 : (k : Int) < (m : Int) := by omega
        have hq := eqB_run f f'
        have hg : Tryz.prog.eqGuardType Tryz.prog.depth 27 = false := by kernel_rfl
        go_wp2
        go_quiet (fail)
        clear hq hg c0 c1 c2 c0' c1' c2'
        cases hsf : sameB f f'
        · have hres := Lib.hid (show sameBs l l' = false by rw [Hs.out, Hd.out, hsf]; rfl)
          go_wp2
          go_ret
          exact ⟨by rw [hres.out]; rfl, Hkw.out.drewN _⟩
        · have hres := Lib.hid (show sameBs l l' = sameBs (l.drop (k + 1)) (l'.drop (k + 1)) by rw [Hs.out, Hd.out, hsf]; rfl)
          go_wp2
          go_roundg (m - (k + 1))
          case measure => omega
          case rel => exact ⟨k + 1, by omega, rfl, by go_num, hres.out, Hkw.out.drewN _⟩
      · have hres := Lib.hid (show sameBs l l' = true by
          rw [Hs.out, List.drop_of_length_le (by rw [A1.out]; omega), List.drop_of_length_le (by rw [B1.out]; omega)]; rfl)
        go_wp2
        go_ret
        exact ⟨by rw [hres.out]; rfl, Hkw.out⟩
  · have hres := Lib.hid (show sameBs l l' = false from sameBs_len (by rw [A1.out, B1.out]; exact hmn))
    have hne : (((m : Nat) : Int) != ((n : Nat) : Int)) = true := by simp; omega
    clear hmn
    go_enter Tryz.func9, Tryz.ntmps9
    go_wp2
    go_ret
    exact ⟨by rw [hres.out]; rfl, Kept.refl _ _⟩
end
end Go.Proofs.YtgndijdhmkphaaaGreatDoor
