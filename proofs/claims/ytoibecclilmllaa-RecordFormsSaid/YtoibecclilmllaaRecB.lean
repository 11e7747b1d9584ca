
/-
  Contracts on rows of backends: is one no backend; copied; the same.
-/
import Derived.Test.YtoibecclilmllaaRecA
import Derived.BigQuiet
import Derived.Laws.StructEq
namespace Go.Proofs.Ytoibecclilmllaa
open Go.RowKit Go.ChangeShapes Go.WideShapes Go.Deep
set_option linter.unusedVariables false

set_option maxHeartbeats 800000 in
theorem index_any (w : World) {G : List Nat} {A : Option Addr} {m c : Nat} (l : List BackD) (h : BkArr w G (.slice A m c) l) :
    Calls Try.prog 33 #[.slice A m c, .func (.func 21) #[] #[]] w fun e w' => (∃ i : Int, e = .returned (.int .i64 i) ∧ (decide (0 ≤ i) = !(l.all mayB))) ∧ Kept [] w w' := by
  obtain ⟨a1, a2, a3, a4⟩ := h.len
  have H := Lib.hid h
  have A1 := Lib.hid a1
  clear h a1 a4
  unfold maxLen at a3
  go_enter Try.func33, Try.ntmps33
  go_wp2
  go_loopg [8] m (fun g i wr => ∃ k : Nat, k ≤ m ∧ g = m - k ∧ i = .int .i64 k ∧ l.all mayB = (l.drop k).all mayB ∧ Kept [] w wr)
  case atStart => exact ⟨0, by omega, by omega, rfl, by simp, Kept.refl _ _⟩
  case round =>
    obtain ⟨k, hk, rfl, rfl, hs, hkw⟩ := hrel
    have Hs := Lib.hid hs
    have Hkw := Lib.hid hkw
    clear hs hkw
    by_cases hlt : k < m
    · have hkl : k < l.length := by rw [A1.out]; exact hlt
      obtain ⟨g, o, rfl, hg, hgG, c0, c1, c2⟩ := (BkArr.kept H.out Hkw.out (by simp)).at (k := k) hkl
      have Hd := Lib.hid (show (l.drop k).all mayB = (mayB l[k] && (l.drop (k + 1)).all mayB) by rw [← List.getElem_cons_drop (h := hkl)]; rfl)
      generalize l[k]'hkl = b at *
      clear hkl
      have i0 : (0 : Int) ≤ (k : Int) := by omega
      have i1 : (k : Int) < (m : Int) := by omega
      cases hb : mayB b
      · have hres := Lib.hid (show l.all mayB = false by rw [Hs.out, Hd.out, hb]; rfl)
        go_wp2_with (go_at_call 21; refine (mayF_any _ b).mono ?_; rintro e w2 ⟨rfl, hk2⟩; rw [hb]; have Hk2 := Lib.hid hk2; clear hk2)
        go_ret
        exact ⟨⟨k, rfl, by rw [hres.out]; simp⟩, Hkw.out.trans Hk2.out (by simp)⟩
      · have hres := Lib.hid (show l.all mayB = (l.drop (k + 1)).all mayB by rw [Hs.out, Hd.out, hb]; rfl)
        go_wp2_with (go_at_call 21; refine (mayF_any _ b).mono ?_; rintro e w2 ⟨rfl, hk2⟩; rw [hb]; have Hk2 := Lib.hid hk2; clear hk2)
        go_roundg (m - (k + 1))
        case measure => omega
        case rel => exact ⟨k + 1, by omega, rfl, by go_num, hres.out, Hkw.out.trans Hk2.out (by simp)⟩
    · have hres := Lib.hid (show l.all mayB = true by rw [Hs.out, List.drop_of_length_le (by rw [A1.out]; omega)]; rfl)
      go_wp2
      go_ret
      exact ⟨⟨-1, rfl, by rw [hres.out]; simp⟩, Hkw.out⟩
set_option maxHeartbeats 800000 in
theorem contains_any (w : World) {G : List Nat} {A : Option Addr} {m c : Nat} (l : List BackD) (h : BkArr w G (.slice A m c) l) :
    Calls Try.prog 20 #[.slice A m c, .func (.func 21) #[] #[]] w fun e w' => e = .returned (.bool (!(l.all mayB))) ∧ Kept [] w w' := by
  go_enter Try.func20, Try.ntmps20
  go_wp2_with fail
  refine (index_any _ l h).mono ?_
  rintro e w1 ⟨⟨i, rfl, hi⟩, hk⟩
  have Hi := Lib.hid hi
  have Hk := Lib.hid hk
  clear hi hk h
  go_wp2
  go_ret
  exact ⟨ret_bool Hi.out, Hk.out⟩

theorem eql_nilB : ∀ (w : World) (a : Option Addr) (n c n' c' : Nat), (binOp .eql 27 (.slice a n c) (.slice none n' c')).run Try.prog w = .ok (.bool a.isNone) w :=
  fun w a n c n' c' => Lib.run_eql_slice_nil w _ _ a n c n' c' Try.underlying27
set_option maxHeartbeats 800000 in
theorem CloneB_any (w : World) {G : List Nat} {A : Option Addr} {m c : Nat} (l : List BackD) (h : BkArr w G (.slice A m c) l) (hG : ∀ k ∈ G, k < w.heap.size) (hm : m ≤ 1099511627776) :
    Calls Try.prog 16 #[.slice A m c] w fun e w' => ∃ v, e = .returned v ∧ BkV w w' v l := by
  obtain ⟨x1, x2, x3, css, e3, l3, y1, y2, y3, dd, ln, rd⟩ := ArrOf.decs h
  injection e3 with e31 e32 e33
  subst e31 e32 e33
  cases A with
  | none =>
    obtain ⟨rfl, rfl⟩ := y3 rfl
    obtain rfl : l = [] := List.eq_nil_of_length_eq_zero l3
    have hq := eql_nilB
    clear h l3 y1 y2 y3 dd ln rd
    go_enter Try.func16, Try.ntmps16
    go_wp2
    go_ret
    exact ⟨_, rfl, LV.nil (Kept.refl _ _)⟩
  | some a =>
    have D := Lib.hid (dd.kept BkOk ((Kept.refl [] w).alloc (.cells #[] 45)) (by simp))
    have R := Lib.hid (rd.alloc (.cells #[] 45))
    have Ln := Lib.hid (show css.flatten.length = m * 3 by rw [flat_len ln, dd.1, l3])
    have L := Lib.hid l3
    have HG := Lib.hid hG
    have hq := eql_nilB
    clear h l3 y1 y2 y3 dd ln rd hG
    go_enter Try.func16, Try.ntmps16
    go_wp2_with (at_builtin
                 refine wpList_app _ rfl (.tmp 5) (.tmp 6) 27 rfl elem_back (by rfl) (World.ownsRow_made w #[] 0 (Nat.zero_le _) (by unfold maxLen; omega) rfl) (by rfl) R.out Ln.out (D.out.ones BkOk) (by unfold maxLen; omega) (by omega) ?_
                 intro v2 w2 ho2 hk2 hr2
                 have hx := LVx.app (W := w) (w := w.alloc (.cells #[] 45)) (w1 := w.alloc (.cells #[] 45)) BkOk (css := []) (G := []) (l := []) ⟨World.ownsRow_made w #[] 0 (Nat.zero_le _) (by unfold maxLen; omega) rfl, fun k hk => by simp [rowOf, Value.ownBlock] at hk; omega, Decs.nil, by simp, (Kept.refl _ _).alloc _⟩ (Kept.refl _ _) D.out (fun k hk => ⟨fun hm => by have := HG.out k hk; simp [rowOf, Value.ownBlock] at hm; omega, Nat.lt_of_lt_of_le (HG.out k hk) (by simp)⟩) ho2 (by simp [L.out]) rfl hk2 hr2
                 have Hx := Lib.hid hx
                 clear hx ho2 hk2 hr2)
    go_ret
    exact ⟨v2, rfl, _, _, Hx.out⟩

theorem u32_cast (a b : UInt32) : (((a.toNat : Nat) : Int) == ((b.toNat : Nat) : Int)) = (a == b) := by
  rw [Bool.eq_iff_iff]; simp [← UInt32.toNat_inj]; omega
theorem eqB_run (f g : BackD) (w : World) : (Op.equalIn 10000 45 (.agg #[.int .i64 f.id, .int .u32 (f.addr.toNat : Nat), .int .i64 f.weight]) (.agg #[.int .i64 g.id, .int .u32 (g.addr.toNat : Nat), .int .i64 g.weight])).run Try.prog w = .ok (sameB f g) w := by
  have u3 := Try.underlying3
  have u22 := Try.underlying22
  have a3 := Try.isAgg3
  have z3 := Try.sizeOf3
  have a22 := Try.isAgg22
  have z22 := Try.sizeOf22
  have hS : Try.prog.underlying 45 = some (.struct (Try.prog.fieldsOf 45)) := by kernel_rfl
  have hp : Try.prog.stoodInHeld 45 = false := by kernel_rfl
  rw [show (10000 : Nat) = 9999 + 1 from rfl, run_equalIn_agg w 9999 45 _ _ hS hp]
  simp only [Program.fieldsOf, Try.underlying45]
  go_simp
  have e := u32_cast f.addr g.addr
  unfold sameB
  cases h1 : f.id == g.id <;> cases h2 : f.addr == g.addr <;> cases h3 : f.weight == g.weight <;> rw [h2] at e <;> simp_all
theorem eqFl_run (f g : RecD) (w : World) : (Op.equalIn 10000 26 (.agg #[.int .u32 (f.tup.src.toNat : Nat), .int .u32 (f.tup.dst.toNat : Nat), .int .i64 f.tup.proto, .int .i64 f.tup.sport, .int .i64 f.tup.dport, .int .i64 f.fb, .int .i64 f.fg, .int .i64 f.fs]) (.agg #[.int .u32 (g.tup.src.toNat : Nat), .int .u32 (g.tup.dst.toNat : Nat), .int .i64 g.tup.proto, .int .i64 g.tup.sport, .int .i64 g.tup.dport, .int .i64 g.fb, .int .i64 g.fg, .int .i64 g.fs])).run Try.prog w = .ok (sameFl f g) w := by
  have u3 := Try.underlying3
  have u2 := Try.underlying2
  have u22 := Try.underlying22
  have a3 := Try.isAgg3
  have z3 := Try.sizeOf3
  have a2 := Try.isAgg2
  have z2 := Try.sizeOf2
  have a22 := Try.isAgg22
  have z22 := Try.sizeOf22
  have a24 := Try.isAgg24
  have z24 := Try.sizeOf24
  have hS : Try.prog.underlying 26 = some (.struct (Try.prog.fieldsOf 26)) := by kernel_rfl
  have hp : Try.prog.stoodInHeld 26 = false := by kernel_rfl
  have hS' : Try.prog.underlying 24 = some (.struct (Try.prog.fieldsOf 24)) := by kernel_rfl
  have hp' : Try.prog.stoodInHeld 24 = false := by kernel_rfl
  have ht : (Op.equalIn (9998 + 1) 24 (.agg #[.int .u32 (f.tup.src.toNat : Nat), .int .u32 (f.tup.dst.toNat : Nat), .int .i64 f.tup.proto, .int .i64 f.tup.sport, .int .i64 f.tup.dport]) (.agg #[.int .u32 (g.tup.src.toNat : Nat), .int .u32 (g.tup.dst.toNat : Nat), .int .i64 g.tup.proto, .int .i64 g.tup.sport, .int .i64 g.tup.dport])).run Try.prog w = .ok (sameT f.tup g.tup) w := by
    rw [run_equalIn_agg w 9998 24 _ _ hS' hp']
    simp only [Program.fieldsOf, Try.underlying24]
    clear hS hp hS' hp' a24 z24
    go_simp
    have e1 := u32_cast f.tup.src g.tup.src
    have e2 := u32_cast f.tup.dst g.tup.dst
    unfold sameT
    cases h1 : f.tup.src == g.tup.src <;> cases h2 : f.tup.dst == g.tup.dst <;> cases h3 : f.tup.proto == g.tup.proto <;> cases h4 : f.tup.sport == g.tup.sport <;> cases h5 : f.tup.dport == g.tup.dport <;> rw [h1] at e1 <;> rw [h2] at e2 <;> simp_all
  rw [show (10000 : Nat) = 9999 + 1 from rfl, run_equalIn_agg w 9999 26 _ _ hS hp]
  simp only [Program.fieldsOf, Try.underlying26]
  clear hS hp hS' hp'
  simp only [show (9998 + 1 : Nat) = 9999 from rfl] at ht
  go_simp
  have e1 : ((f.tup.src.toNat : Nat) : Int) = ((g.tup.src.toNat : Nat) : Int) ↔ f.tup.src = g.tup.src := by
    rw [← UInt32.toNat_inj]; omega
  have e2 : ((f.tup.dst.toNat : Nat) : Int) = ((g.tup.dst.toNat : Nat) : Int) ↔ f.tup.dst = g.tup.dst := by
    rw [← UInt32.toNat_inj]; omega
  simp only [e1, e2]
  clear e1 e2 ht u3 u2 u22 a3 z3 a2 z2 a22 z22 a24 z24
  unfold sameFl sameT
  repeat' split
  all_goals simp [*]
set_option maxHeartbeats 1600000 in
theorem EqualB_any (w : World) {G1 G2 : List Nat} {A B : Option Addr} {m c n d : Nat} (l l' : List BackD) (h1 : BkArr w G1 (.slice A m c) l) (h2 : BkArr w G2 (.slice B n d) l') :
    Calls Try.prog 28 #[.slice A m c, .slice B n d] w fun e w' => e = .returned (.bool (sameBs l l')) ∧ Kept [] w w' := by
  obtain ⟨a1, a2, a3, a4⟩ := h1.len
  obtain ⟨b1, b2, b3, b4⟩ := h2.len
  have H1 := Lib.hid h1
  have H2 := Lib.hid h2
  have A1 := Lib.hid a1
  have B1 := Lib.hid b1
  clear h1 h2 a1 b1 a4 b4
  unfold maxLen at a3 b3
  by_cases hmn : m = n
  · subst hmn
    go_enter Try.func28, Try.ntmps28
    go_wp2
    go_loopg [13] m (fun g i wr => ∃ k : Nat, k ≤ m ∧ g = m - k ∧ i = .int .i64 k ∧ sameBs l l' = sameBs (l.drop k) (l'.drop k) ∧ Kept [] w wr)
    case atStart => exact ⟨0, by omega, by omega, rfl, by simp, Kept.refl _ _⟩
    case round =>
      obtain ⟨k, hk, rfl, rfl, hs, hkw⟩ := hrel
      have Hs := Lib.hid hs
      have Hkw := Lib.hid hkw
      clear hs hkw
      by_cases hlt : k < m
      · have hkl : k < l.length := by rw [A1.out]; exact hlt
        have hkl' : k < l'.length := by rw [B1.out]; exact hlt
        obtain ⟨g, o, rfl, hg, hgG, c0, c1, c2⟩ := (BkArr.kept H1.out Hkw.out (by simp)).at (k := k) hkl
        obtain ⟨g', o', rfl, hg', hgG', c0', c1', c2'⟩ := (BkArr.kept H2.out Hkw.out (by simp)).at (k := k) hkl'
        have Hd := Lib.hid (sameBs_drop (l := l) (l' := l') hkl hkl')
        generalize l[k]'hkl = f at *
        generalize l'[k]'hkl' = f' at *
        clear hkl hkl'
        have i0 : (0 : Int) ≤ (k : Int) := by omega
        have i1 : (k : Int) < (m : Int) := by omega
        have hq := eqB_run f f'
        have hg : Try.prog.eqGuardType Try.prog.depth 45 = false := by kernel_rfl
        go_wp2
        go_quiet (fail)
        clear hq hg c0 c1 c2 c0' c1' c2'
        cases hsf : sameB f f'
        · have hres := Lib.hid (show sameBs l l' = false by rw [Hs.out, Hd.out, hsf]; rfl)
          go_wp2
          go_ret
          exact ⟨by rw [hres.out]; rfl, Hkw.out.drewN _⟩
        · have hres := Lib.hid (show sameBs l l' = sameBs (l.drop (k + 1)) (l'.drop (k + 1)) by rw [Hs.out, Hd.out, hsf]; rfl)
          go_wp2
          go_roundg (m - (k + 1))
          case measure => omega
          case rel => exact ⟨k + 1, by omega, rfl, by go_num, hres.out, Hkw.out.drewN _⟩
      · have hres := Lib.hid (show sameBs l l' = true by
          rw [Hs.out, List.drop_of_length_le (by rw [A1.out]; omega), List.drop_of_length_le (by rw [B1.out]; omega)]; rfl)
        go_wp2
        go_ret
        exact ⟨by rw [hres.out]; rfl, Hkw.out⟩
  · have hres := Lib.hid (show sameBs l l' = false from sameBs_len (by rw [A1.out, B1.out]; exact hmn))
    have hne : (((m : Nat) : Int) != ((n : Nat) : Int)) = true := by simp; omega
    clear hmn
    go_enter Try.func28, Try.ntmps28
    go_wp2
    go_ret
    exact ⟨by rw [hres.out]; rfl, Kept.refl _ _⟩
set_option maxHeartbeats 1600000 in
theorem rSameBs_any (w : World) {G1 G2 : List Nat} {A B : Option Addr} {m c n d : Nat} (l l' : List BackD) (h1 : BkArr w G1 (.slice A m c) l) (h2 : BkArr w G2 (.slice B n d) l') :
    Calls Try.prog 8 #[.slice A m c, .slice B n d] w fun e w' => e = .returned (.bool (sameBs l l')) ∧ Kept [] w w' := by
  obtain ⟨a1, a2, a3, a4⟩ := h1.len
  obtain ⟨b1, b2, b3, b4⟩ := h2.len
  have H1 := Lib.hid h1
  have H2 := Lib.hid h2
  have A1 := Lib.hid a1
  have B1 := Lib.hid b1
  clear h1 h2 a1 b1 a4 b4
  unfold maxLen at a3 b3
  by_cases hmn : m = n
  · subst hmn
    go_enter Try.func8, Try.ntmps8
    go_wp2
    go_loopg [13] m (fun g i wr => ∃ k : Nat, k ≤ m ∧ g = m - k ∧ i = .int .i64 k ∧ sameBs l l' = sameBs (l.drop k) (l'.drop k) ∧ Kept [] w wr)
    case atStart => exact ⟨0, by omega, by omega, rfl, by simp, Kept.refl _ _⟩
    case round =>
      obtain ⟨k, hk, rfl, rfl, hs, hkw⟩ := hrel
      have Hs := Lib.hid hs
      have Hkw := Lib.hid hkw
      clear hs hkw
      by_cases hlt : k < m
      · have hkl : k < l.length := by rw [A1.out]; exact hlt
        have hkl' : k < l'.length := by rw [B1.out]; exact hlt
        obtain ⟨g, o, rfl, hg, hgG, c0, c1, c2⟩ := (BkArr.kept H1.out Hkw.out (by simp)).at (k := k) hkl
        obtain ⟨g', o', rfl, hg', hgG', c0', c1', c2'⟩ := (BkArr.kept H2.out Hkw.out (by simp)).at (k := k) hkl'
        have Hd := Lib.hid (sameBs_drop (l := l) (l' := l') hkl hkl')
        generalize l[k]'hkl = f at *
        generalize l'[k]'hkl' = f' at *
        clear hkl hkl'
        have i0 : (0 : Int) ≤ (k : Int) := by omega
        have i1 : (k : Int) < (m : Int) := by omega
        have hq := eqB_run f f'
        have hg : Try.prog.eqGuardType Try.prog.depth 45 = false := by kernel_rfl
        go_wp2
        go_quiet (fail)
        clear hq hg c0 c1 c2 c0' c1' c2'
        cases hsf : sameB f f'
        · have hres := Lib.hid (show sameBs l l' = false by rw [Hs.out, Hd.out, hsf]; rfl)
          go_wp2
          go_ret
          exact ⟨by rw [hres.out]; rfl, Hkw.out.drewN _⟩
        · have hres := Lib.hid (show sameBs l l' = sameBs (l.drop (k + 1)) (l'.drop (k + 1)) by rw [Hs.out, Hd.out, hsf]; rfl)
          go_wp2
          go_roundg (m - (k + 1))
          case measure => omega
          case rel => exact ⟨k + 1, by omega, rfl, by go_num, hres.out, Hkw.out.drewN _⟩
      · have hres := Lib.hid (show sameBs l l' = true by
          rw [Hs.out, List.drop_of_length_le (by rw [A1.out]; omega), List.drop_of_length_le (by rw [B1.out]; omega)]; rfl)
        go_wp2
        go_ret
        exact ⟨by rw [hres.out]; rfl, Hkw.out⟩
  · have hres := Lib.hid (show sameBs l l' = false from sameBs_len (by rw [A1.out, B1.out]; exact hmn))
    have hne : (((m : Nat) : Int) != ((n : Nat) : Int)) = true := by simp; omega
    clear hmn
    go_enter Try.func8, Try.ntmps8
    go_wp2
    go_ret
    exact ⟨by rw [hres.out]; rfl, Kept.refl _ _⟩
end Go.Proofs.Ytoibecclilmllaa
