/-
  A struct of many cells stored whole, loaded whole: by laws, not cell by cell.
-/
import Derived.BigQuiet
import Derived.Laws.StructEq
import Derived.Test.YtkacghjglicjiaaGreatRecA
import Derived.Deep.MidRow
import Derived.Test.YtkacghjglicjiaaGreatLv
namespace Go.Proofs.YtkacghjglicjiaaGreat
set_option linter.unusedVariables false
section
open Go.RowKit Go.ChangeShapes Go.WideShapes Go.Deep
set_option maxHeartbeats 800000 in
theorem index_any (w : World) {G : List Nat} {A : Option Addr} {m c : Nat} (l : List BackD) (h : BkArr w G (.slice A m c) l) :
    Calls Tryz.prog 135 #[.slice A m c, .func (.func 105) #[] #[]] w fun e w' => (∃ i : Int, e = .returned (.int .i64 i) ∧ (decide (0 ≤ i) = !(l.all mayB))) ∧ Kept [] w w' := by
  obtain ⟨a1, a2, a3, a4⟩ := h.len
  have H := Lib.hid h
  have A1 := Lib.hid a1
  clear h a1 a4
  unfold maxLen at a3
  go_enter Tryz.func135, Tryz.ntmps135
  go_wp2
  go_loopg [8] m (fun g i wr => ∃ k : Nat, k ≤ m ∧ g = m - k ∧ i = .int .i64 k ∧ l.all mayB = (l.drop k).all mayB ∧ Kept [] w wr)
  case atStart => exact ⟨0, by omega, by omega, rfl, by simp, Kept.refl _ _⟩
  case round =>
    obtain ⟨k, hk, rfl, rfl, hs, hkw⟩ := hrel
    have Hs := Lib.hid hs
    have Hkw := Lib.hid hkw
    clear hs hkw
    by_cases hlt : k < m
    · have hkl : k < l.length := by rw [A1.out]; exact hlt
      obtain ⟨g, o, rfl, hg, hgG, c0, c1, c2⟩ := (BkArr.kept H.out Hkw.out (by simp)).at (k := k) hkl
      have Hd := Lib.hid (show (l.drop k).all mayB = (mayB l[k] && (l.drop (k + 1)).all mayB) by rw [← List.getElem_cons_drop (h := hkl)]; rfl)
      generalize l[k]'hkl = b at *
      clear hkl
      have i0 : (0 : Int) ≤ (k : Int) := by omega
      have i1 : (k : Int) < (m : Int) := by omega
      cases hb : mayB b
      · have hres := Lib.hid (show l.all mayB = false by rw [Hs.out, Hd.out, hb]; rfl)
        go_wp2_with (go_at_call 105; refine (mayF_any _ b).mono ?_; rintro e w2 ⟨rfl, hk2⟩; rw [hb]; have Hk2 := Lib.hid hk2; clear hk2)
        go_ret
        exact ⟨⟨k, rfl, by rw [hres.out]; simp⟩, Hkw.out.trans Hk2.out (by simp)⟩
      · have hres := Lib.hid (show l.all mayB = (l.drop (k + 1)).all mayB by rw [Hs.out, Hd.out, hb]; rfl)
        go_wp2_with (go_at_call 105; refine (mayF_any _ b).mono ?_; rintro e w2 ⟨rfl, hk2⟩; rw [hb]; have Hk2 := Lib.hid hk2; clear hk2)
        go_roundg (m - (k + 1))
        case measure => omega
        case rel => exact ⟨k + 1, by omega, rfl, by go_num, hres.out, Hkw.out.trans Hk2.out (by simp)⟩
    · have hres := Lib.hid (show l.all mayB = true by rw [Hs.out, List.drop_of_length_le (by rw [A1.out]; omega)]; rfl)
      go_wp2
      go_ret
      exact ⟨⟨-1, rfl, by rw [hres.out]; simp⟩, Hkw.out⟩
set_option maxHeartbeats 800000 in
theorem contains_any (w : World) {G : List Nat} {A : Option Addr} {m c : Nat} (l : List BackD) (h : BkArr w G (.slice A m c) l) :
    Calls Tryz.prog 104 #[.slice A m c, .func (.func 105) #[] #[]] w fun e w' => e = .returned (.bool (!(l.all mayB))) ∧ Kept [] w w' := by
  go_enter Tryz.func104, Tryz.ntmps104
  go_wp2_with fail
  refine (index_any _ l h).mono ?_
  rintro e w1 ⟨⟨i, rfl, hi⟩, hk⟩
  have Hi := Lib.hid hi
  have Hk := Lib.hid hk
  clear hi hk h
  go_wp2
  go_ret
  exact ⟨ret_bool Hi.out, Hk.out⟩
theorem eql_nilB : ∀ (w : World) (a : Option Addr) (n c n' c' : Nat), (binOp .eql 22 (.slice a n c) (.slice none n' c')).run Tryz.prog w = .ok (.bool a.isNone) w :=
  fun w a n c n' c' => Lib.run_eql_slice_nil w _ _ a n c n' c' Tryz.underlying22
set_option maxHeartbeats 800000 in
theorem CloneB_any (w : World) {G : List Nat} {A : Option Addr} {m c : Nat} (l : List BackD) (h : BkArr w G (.slice A m c) l) (hG : ∀ k ∈ G, k < w.heap.size) (hm : m ≤ 1099511627776) :
    Calls Tryz.prog 91 #[.slice A m c] w fun e w' => ∃ v, e = .returned v ∧ BkV w w' v l := by
  obtain ⟨x1, x2, x3, css, e3, l3, y1, y2, y3, dd, ln, rd⟩ := ArrOf.decs h
  injection e3 with e31 e32 e33
  subst e31 e32 e33
  cases A with
  | none =>
    obtain ⟨rfl, rfl⟩ := y3 rfl
    obtain rfl : l = [] := List.eq_nil_of_length_eq_zero l3
    have hq := eql_nilB
    clear h l3 y1 y2 y3 dd ln rd
    go_enter Tryz.func91, Tryz.ntmps91
    go_wp2
    go_ret
    exact ⟨_, rfl, LV.nil (Kept.refl _ _)⟩
  | some a =>
    have D := Lib.hid (dd.kept BkOk ((Kept.refl [] w).alloc (.cells #[] 78)) (by simp))
    have R := Lib.hid (rd.alloc (.cells #[] 78))
    have Ln := Lib.hid (show css.flatten.length = m * 3 by rw [flat_len ln, dd.1, l3])
    have L := Lib.hid l3
    have HG := Lib.hid hG
    have hq := eql_nilB
    clear h l3 y1 y2 y3 dd ln rd hG
    go_enter Tryz.func91, Tryz.ntmps91
    go_wp2_with (at_builtin
                 refine wpList_app _ rfl (.tmp 5) (.tmp 6) 22 rfl elem_back (by rfl) (World.ownsRow_made w #[] 0 (Nat.zero_le _) (by unfold maxLen; omega) rfl) (by rfl) R.out Ln.out (D.out.ones BkOk) (by unfold maxLen; omega) (by omega) ?_
                 intro v2 w2 ho2 hk2 hr2
                 have hx := LVx.app (W := w) (w := w.alloc (.cells #[] 78)) (w1 := w.alloc (.cells #[] 78)) BkOk (css := []) (G := []) (l := []) ⟨World.ownsRow_made w #[] 0 (Nat.zero_le _) (by unfold maxLen; omega) rfl, fun k hk => by simp [rowOf, Value.ownBlock] at hk; omega, Decs.nil, by simp, (Kept.refl _ _).alloc _⟩ (Kept.refl _ _) D.out (fun k hk => ⟨fun hm => by have := HG.out k hk; simp [rowOf, Value.ownBlock] at hm; omega, Nat.lt_of_lt_of_le (HG.out k hk) (by simp)⟩) ho2 (by simp [L.out]) rfl hk2 hr2
                 have Hx := Lib.hid hx
                 clear hx ho2 hk2 hr2)
    go_ret
    exact ⟨v2, rfl, _, _, Hx.out⟩
theorem u32_cast (a b : UInt32) : (((a.toNat : Nat) : Int) == ((b.toNat : Nat) : Int)) = (a == b) := by
  rw [Bool.eq_iff_iff]; simp [← UInt32.toNat_inj]; omega
theorem eqB_run (f g : BackD) (w : World) : (Op.equalIn 10000 78 (.agg #[.int .i64 f.id, .int .u32 (f.addr.toNat : Nat), .int .i64 f.weight]) (.agg #[.int .i64 g.id, .int .u32 (g.addr.toNat : Nat), .int .i64 g.weight])).run Tryz.prog w = .ok (sameB f g) w := by
  have u3 := Tryz.underlying3
  have u22 := Tryz.underlying37
  have a3 := Tryz.isAgg3
  have z3 := Tryz.sizeOf3
  have a22 := Tryz.isAgg37
  have z22 := Tryz.sizeOf37
  have hS : Tryz.prog.underlying 78 = some (.struct (Tryz.prog.fieldsOf 78)) := by kernel_rfl
  have hp : Tryz.prog.stoodInHeld 78 = false := by kernel_rfl
  rw [show (10000 : Nat) = 9999 + 1 from rfl, run_equalIn_agg w 9999 78 _ _ hS hp]
  simp only [Program.fieldsOf, Tryz.underlying78]
  go_simp
  have e := u32_cast f.addr g.addr
  unfold sameB
  cases h1 : f.id == g.id <;> cases h2 : f.addr == g.addr <;> cases h3 : f.weight == g.weight <;> rw [h2] at e <;> simp_all
theorem eqFl_run (f g : RecD) (w : World) : (Op.equalIn 10000 41 (.agg #[.int .u32 (f.tup.src.toNat : Nat), .int .u32 (f.tup.dst.toNat : Nat), .int .i64 f.tup.proto, .int .i64 f.tup.sport, .int .i64 f.tup.dport, .int .i64 f.fb, .int .i64 f.fg, .int .i64 f.fs]) (.agg #[.int .u32 (g.tup.src.toNat : Nat), .int .u32 (g.tup.dst.toNat : Nat), .int .i64 g.tup.proto, .int .i64 g.tup.sport, .int .i64 g.tup.dport, .int .i64 g.fb, .int .i64 g.fg, .int .i64 g.fs])).run Tryz.prog w = .ok (sameFl f g) w := by
  have u3 := Tryz.underlying3
  have u2 := Tryz.underlying2
  have u22 := Tryz.underlying37
  have a3 := Tryz.isAgg3
  have z3 := Tryz.sizeOf3
  have a2 := Tryz.isAgg2
  have z2 := Tryz.sizeOf2
  have a22 := Tryz.isAgg37
  have z22 := Tryz.sizeOf37
  have a24 := Tryz.isAgg39
  have z24 := Tryz.sizeOf39
  have hS : Tryz.prog.underlying 41 = some (.struct (Tryz.prog.fieldsOf 41)) := by kernel_rfl
  have hp : Tryz.prog.stoodInHeld 41 = false := by kernel_rfl
  have hS' : Tryz.prog.underlying 39 = some (.struct (Tryz.prog.fieldsOf 39)) := by kernel_rfl
  have hp' : Tryz.prog.stoodInHeld 39 = false := by kernel_rfl
  have ht : (Op.equalIn (9998 + 1) 39 (.agg #[.int .u32 (f.tup.src.toNat : Nat), .int .u32 (f.tup.dst.toNat : Nat), .int .i64 f.tup.proto, .int .i64 f.tup.sport, .int .i64 f.tup.dport]) (.agg #[.int .u32 (g.tup.src.toNat : Nat), .int .u32 (g.tup.dst.toNat : Nat), .int .i64 g.tup.proto, .int .i64 g.tup.sport, .int .i64 g.tup.dport])).run Tryz.prog w = .ok (sameT f.tup g.tup) w := by
    rw [run_equalIn_agg w 9998 39 _ _ hS' hp']
    simp only [Program.fieldsOf, Tryz.underlying39]
    clear hS hp hS' hp' a24 z24
    go_simp
    have e1 := u32_cast f.tup.src g.tup.src
    have e2 := u32_cast f.tup.dst g.tup.dst
    unfold sameT
    cases h1 : f.tup.src == g.tup.src <;> cases h2 : f.tup.dst == g.tup.dst <;> cases h3 : f.tup.proto == g.tup.proto <;> cases h4 : f.tup.sport == g.tup.sport <;> cases h5 : f.tup.dport == g.tup.dport <;> rw [h1] at e1 <;> rw [h2] at e2 <;> simp_all
  rw [show (10000 : Nat) = 9999 + 1 from rfl, run_equalIn_agg w 9999 41 _ _ hS hp]
  simp only [Program.fieldsOf, Tryz.underlying41]
  clear hS hp hS' hp'
  simp only [show (9998 + 1 : Nat) = 9999 from rfl] at ht
  go_simp
  have e1 : ((f.tup.src.toNat : Nat) : Int) = ((g.tup.src.toNat : Nat) : Int) ↔ f.tup.src = g.tup.src := by
    rw [← UInt32.toNat_inj]; omega
  have e2 : ((f.tup.dst.toNat : Nat) : Int) = ((g.tup.dst.toNat : Nat) : Int) ↔ f.tup.dst = g.tup.dst := by
    rw [← UInt32.toNat_inj]; omega
  simp only [e1, e2]
  clear e1 e2 ht u3 u2 u22 a3 z3 a2 z2 a22 z22 a24 z24
  unfold sameFl sameT
  repeat' split
  all_goals simp [*]
set_option maxHeartbeats 1600000 in
theorem EqualB_any (w : World) {G1 G2 : List Nat} {A B : Option Addr} {m c n d : Nat} (l l' : List BackD) (h1 : BkArr w G1 (.slice A m c) l) (h2 : BkArr w G2 (.slice B n d) l') :
    Calls Tryz.prog 92 #[.slice A m c, .slice B n d] w fun e w' => e = .returned (.bool (sameBs l l')) ∧ Kept [] w w' := by
  obtain ⟨a1, a2, a3, a4⟩ := h1.len
  obtain ⟨b1, b2, b3, b4⟩ := h2.len
  have H1 := Lib.hid h1
  have H2 := Lib.hid h2
  have A1 := Lib.hid a1
  have B1 := Lib.hid b1
  clear h1 h2 a1 b1 a4 b4
  unfold maxLen at a3 b3
  by_cases hmn : m = n
  · subst hmn
    go_enter Tryz.func92, Tryz.ntmps92
    go_wp2
    go_loopg [13] m (fun g i wr => ∃ k : Nat, k ≤ m ∧ g = m - k ∧ i = .int .i64 k ∧ sameBs l l' = sameBs (l.drop k) (l'.drop k) ∧ Kept [] w wr)
    case atStart => exact ⟨0, by omega, by omega, rfl, by simp, Kept.refl _ _⟩
    case round =>
      obtain ⟨k, hk, rfl, rfl, hs, hkw⟩ := hrel
      have Hs := Lib.hid hs
      have Hkw := Lib.hid hkw
      clear hs hkw
      by_cases hlt : k < m
      · have hkl : k < l.length := by rw [A1.out]; exact hlt
        have hkl' : k < l'.length := by rw [B1.out]; exact hlt
        obtain ⟨g, o, rfl, hg, hgG, c0, c1, c2⟩ := (BkArr.kept H1.out Hkw.out (by simp)).at (k := k) hkl
        obtain ⟨g', o', rfl, hg', hgG', c0', c1', c2'⟩ := (BkArr.kept H2.out Hkw.out (by simp)).at (k := k) hkl'
        have Hd := Lib.hid (sameBs_drop (l := l) (l' := l') hkl hkl')
        generalize l[k]'hkl = f at *
        generalize l'[k]'hkl' = f' at *
        clear hkl hkl'
        have i0 : (0 : Int) ≤ (k : Int) := by omega
        have i1 : (k : Int) < (m : Int) := by omega
        have hq := eqB_run f f'
        have hg : Tryz.prog.eqGuardType Tryz.prog.depth 78 = false := by kernel_rfl
        go_wp2
        go_quiet (fail)
        clear hq hg c0 c1 c2 c0' c1' c2'
        cases hsf : sameB f f'
        · have hres := Lib.hid (show sameBs l l' = false by rw [Hs.out, Hd.out, hsf]; rfl)
          go_wp2
          go_ret
          exact ⟨by rw [hres.out]; rfl, Hkw.out.drewN _⟩
        · have hres := Lib.hid (show sameBs l l' = sameBs (l.drop (k + 1)) (l'.drop (k + 1)) by rw [Hs.out, Hd.out, hsf]; rfl)
          go_wp2
          go_roundg (m - (k + 1))
          case measure => omega
          case rel => exact ⟨k + 1, by omega, rfl, by go_num, hres.out, Hkw.out.drewN _⟩
      · have hres := Lib.hid (show sameBs l l' = true by
          rw [Hs.out, List.drop_of_length_le (by rw [A1.out]; omega), List.drop_of_length_le (by rw [B1.out]; omega)]; rfl)
        go_wp2
        go_ret
        exact ⟨by rw [hres.out]; rfl, Hkw.out⟩
  · have hres := Lib.hid (show sameBs l l' = false from sameBs_len (by rw [A1.out, B1.out]; exact hmn))
    have hne : (((m : Nat) : Int) != ((n : Nat) : Int)) = true := by simp; omega
    clear hmn
    go_enter Tryz.func92, Tryz.ntmps92
    go_wp2
    go_ret
    exact ⟨by rw [hres.out]; rfl, Kept.refl _ _⟩
set_option maxHeartbeats 1600000 in
theorem rSameBs_any (w : World) {G1 G2 : List Nat} {A B : Option Addr} {m c n d : Nat} (l l' : List BackD) (h1 : BkArr w G1 (.slice A m c) l) (h2 : BkArr w G2 (.slice B n d) l') :
    Calls Tryz.prog 40 #[.slice A m c, .slice B n d] w fun e w' => e = .returned (.bool (sameBs l l')) ∧ Kept [] w w' := by
  obtain ⟨a1, a2, a3, a4⟩ := h1.len
  obtain ⟨b1, b2, b3, b4⟩ := h2.len
  have H1 := Lib.hid h1
  have H2 := Lib.hid h2
  have A1 := Lib.hid a1
  have B1 := Lib.hid b1
  clear h1 h2 a1 b1 a4 b4
  unfold maxLen at a3 b3
  by_cases hmn : m = n
  · subst hmn
    go_enter Tryz.func40, Tryz.ntmps40
    go_wp2
    go_loopg [13] m (fun g i wr => ∃ k : Nat, k ≤ m ∧ g = m - k ∧ i = .int .i64 k ∧ sameBs l l' = sameBs (l.drop k) (l'.drop k) ∧ Kept [] w wr)
    case atStart => exact ⟨0, by omega, by omega, rfl, by simp, Kept.refl _ _⟩
    case round =>
      obtain ⟨k, hk, rfl, rfl, hs, hkw⟩ := hrel
      have Hs := Lib.hid hs
      have Hkw := Lib.hid hkw
      clear hs hkw
      by_cases hlt : k < m
      · have hkl : k < l.length := by rw [A1.out]; exact hlt
        have hkl' : k < l'.length := by rw [B1.out]; exact hlt
        obtain ⟨g, o, rfl, hg, hgG, c0, c1, c2⟩ := (BkArr.kept H1.out Hkw.out (by simp)).at (k := k) hkl
        obtain ⟨g', o', rfl, hg', hgG', c0', c1', c2'⟩ := (BkArr.kept H2.out Hkw.out (by simp)).at (k := k) hkl'
        have Hd := Lib.hid (sameBs_drop (l := l) (l' := l') hkl hkl')
        generalize l[k]'hkl = f at *
        generalize l'[k]'hkl' = f' at *
        clear hkl hkl'
        have i0 : (0 : Int) ≤ (k : Int) := by omega
        have i1 : (k : Int) < (m : Int) := by omega
        have hq := eqB_run f f'
        have hg : Tryz.prog.eqGuardType Tryz.prog.depth 78 = false := by kernel_rfl
        go_wp2
        go_quiet (fail)
        clear hq hg c0 c1 c2 c0' c1' c2'
        cases hsf : sameB f f'
        · have hres := Lib.hid (show sameBs l l' = false by rw [Hs.out, Hd.out, hsf]; rfl)
          go_wp2
          go_ret
          exact ⟨by rw [hres.out]; rfl, Hkw.out.drewN _⟩
        · have hres := Lib.hid (show sameBs l l' = sameBs (l.drop (k + 1)) (l'.drop (k + 1)) by rw [Hs.out, Hd.out, hsf]; rfl)
          go_wp2
          go_roundg (m - (k + 1))
          case measure => omega
          case rel => exact ⟨k + 1, by omega, rfl, by go_num, hres.out, Hkw.out.drewN _⟩
      · have hres := Lib.hid (show sameBs l l' = true by
          rw [Hs.out, List.drop_of_length_le (by rw [A1.out]; omega), List.drop_of_length_le (by rw [B1.out]; omega)]; rfl)
        go_wp2
        go_ret
        exact ⟨by rw [hres.out]; rfl, Hkw.out⟩
  · have hres := Lib.hid (show sameBs l l' = false from sameBs_len (by rw [A1.out, B1.out]; exact hmn))
    have hne : (((m : Nat) : Int) != ((n : Nat) : Int)) = true := by simp; omega
    clear hmn
    go_enter Tryz.func40, Tryz.ntmps40
    go_wp2
    go_ret
    exact ⟨by rw [hres.out]; rfl, Kept.refl _ _⟩
end
section
open Go.RowKit
theorem Blk.new' (w : World) {g : Nat} (h : w.heap.size = g) (t : TypeId) (cs : Array Value) : Blk (w.alloc (.cells cs t)) g t cs := by subst h; exact Blk.new w t cs
theorem Blk.setCells {g : Nat} {t : TypeId} : ∀ (vs : List Value) (o : Nat) (w : World) (cs : Array Value), Blk w g t cs → o + vs.length ≤ cs.size →
    ∃ cs', Blk (w.setCells g o vs) g t cs' ∧ cs'.size = cs.size ∧ (∀ j, j < o → cs'[j]? = cs[j]?) ∧ ∀ j v, vs[j]? = some v → cs'[o + j]? = some v
  | [], o, w, cs, h, _ => ⟨cs, h, rfl, fun _ _ => rfl, fun j v hj => by simp at hj⟩
  | u :: vs, o, w, cs, h, hl => by
    simp only [List.length_cons] at hl
    obtain ⟨cs', h1, h2, h3, h4⟩ := Blk.setCells vs (o + 1) (w.setCell ⟨g, o, none⟩ u) (cs.setIfInBounds o u) (h.set o u) (by simp; omega)
    refine ⟨cs', h1, by simpa using h2, fun j hj => ?_, fun j v hj => ?_⟩
    · rw [h3 j (by omega), Array.getElem?_setIfInBounds, if_neg (by omega)]
    · cases j with
      | zero =>
        simp at hj
        rw [Nat.add_zero, h3 o (by omega), Array.getElem?_setIfInBounds, if_pos rfl, if_pos (by omega), hj]
      | succ j =>
        have := h4 j v (by simpa using hj)
        rwa [show o + 1 + j = o + (j + 1) by omega] at this
theorem Kept.setCells {g : Nat} : ∀ (vs : List Value) (o : Nat) (w w' : World), Kept [g] w w' → Kept [g] w (w'.setCells g o vs)
  | [], _, _, _, h => h
  | u :: vs, o, w, w', h => Kept.setCells vs (o + 1) w _ (h.setCell (.inl (by simp)) u)
theorem Blk.whole {w : World} {g : Nat} {t : TypeId} {cs : Array Value} (h : Blk w g t cs) (vs : Array Value) (hs : cs.size = vs.size) : Blk (w.setCells g 0 vs.toList) g t vs := by
  obtain ⟨cs', h1, h2, _, h4⟩ := Blk.setCells vs.toList 0 w cs h (by simp; omega)
  have : cs' = vs := by
    apply Array.ext (by omega)
    intro i h5 h6
    have := h4 i vs[i] (by simp [h6])
    rw [Nat.zero_add, Array.getElem?_eq_getElem h5] at this
    exact Option.some.inj this
  rwa [this] at h1
theorem wpList_put {P : Program} {ops : Array Oper} {rest : List Oper} {op : Oper} {a : Act} {w : World} {Q : Exit → Act → World → Prop} (hgd : op.guard = none) (ty : TypeId) (x y : Operand) (ho : op.op = .store ty x y)
    {g : Nat} {t : TypeId} {cs0 : Array Value} (cells : Array Value) (hx : a.eval x = .pointer (some ⟨g, 0, none⟩)) (hy : a.eval y = .agg cells) (hb : Blk w g t cs0) (hs : cs0.size = cells.size)
    (hi : (P.info? ty).map (·.size) = some cells.size) (h1 : cells.all (·.oneCell') = true)
    (h : ∀ w', Blk w' g t cells → Kept [g] w w' → wpList P ops Q rest (a.put op.dst undef) w') : wpList P ops Q (op :: rest) a w := by
  refine wpList_store_mid hgd ty x y ho g 0 cells hx hy (fun j hj => ?_) hi h1 (h _ (hb.whole cells hs) (Kept.setCells _ _ _ _ (Kept.refl _ _)))
  rw [Nat.zero_add, hb.cell j, hb.frozen j]
  exact ⟨by rw [Array.getElem?_eq_getElem (by omega)]; rfl, rfl⟩
theorem run_loadWhole {P : Program} {w : World} {g : Nat} {t ty : TypeId} {cells : Array Value} (hb : Blk w g t cells) (d : TypeDesc) (hu : P.underlying ty = some d) (hd : d.isRow = true) (hi : (P.info? ty).map (·.size) = some cells.size) :
    (loadVar ty ⟨g, 0, none⟩).run P w = .ok (.agg cells) w := by
  have h := run_loadVar_mid (P := P) w g 0 ty cells.toList d (fun j v hv => by rw [Nat.zero_add, hb.cell j]; simpa using hv) hu hd (by simpa using hi)
  simpa using h
theorem results_cell {P : Program} {fn : Func} {s : Tmp} {ty : TypeId} {tmps : Array Value} {w : World} {g : Nat} {t : TypeId} {cells : Array Value} (h : fn.results = #[.cell s ty]) (hs : tmps.getD s undef = .pointer (some ⟨g, 0, none⟩))
    (hb : Blk w g t cells) (d : TypeDesc) (hu : P.underlying ty = some d) (hd : d.isRow = true) (hi : (P.info? ty).map (·.size) = some cells.size) : (results fn tmps).run P w = .ok (.agg cells) w := by
  have hs' : tmps[s]?.getD undef = .pointer (some ⟨g, 0, none⟩) := by rw [← Array.getD_eq_getD_getElem?]; exact hs
  simp [results, h, hs', asAddr, run_loadWhole hb d hu hd hi]
theorem results_cell1 {P : Program} {fn : Func} {s s1 : Tmp} {ty : TypeId} {tmps : Array Value} {w : World} {g : Nat} {t : TypeId} {cells : Array Value} (h : fn.results = #[.cell s ty, .tmp s1]) (hs : tmps.getD s undef = .pointer (some ⟨g, 0, none⟩))
    (hb : Blk w g t cells) (d : TypeDesc) (hu : P.underlying ty = some d) (hd : d.isRow = true) (hi : (P.info? ty).map (·.size) = some cells.size) : (results fn tmps).run P w = .ok (.tuple #[.agg cells, tmps.getD s1 undef]) w := by
  have hs' : tmps[s]?.getD undef = .pointer (some ⟨g, 0, none⟩) := by rw [← Array.getD_eq_getD_getElem?]; exact hs
  simp [results, h, hs', asAddr, run_loadWhole hb d hu hd hi]
end
end Go.Proofs.YtkacghjglicjiaaGreat
