/-
  Views: kept, compared; a state has one.
-/
import Derived.Test.YtkacghjglicjiaaGreatStX
namespace Go.Proofs.YtkacghjglicjiaaGreat
set_option linter.unusedVariables false
section
open Go.RowKit Go.ChangeShapes Go.WideShapes Go.ChangeAt Go.Deep Go.MapKept
instance instFlD : DecidableEq FlD := fun a b => decidable_of_iff (a.tup = b.tup ∧ a.back = b.back ∧ a.gen = b.gen ∧ a.seen = b.seen) (by cases a; cases b; simp)
theorem eqF_run (f g : FlD) (w : World) : (Op.equalIn 10000 41 (.agg #[.int .u32 (f.tup.src.toNat : Nat), .int .u32 (f.tup.dst.toNat : Nat), .int .i64 f.tup.proto, .int .i64 f.tup.sport, .int .i64 f.tup.dport, .int .i64 f.back, .int .i64 f.gen, .int .i64 f.seen]) (.agg #[.int .u32 (g.tup.src.toNat : Nat), .int .u32 (g.tup.dst.toNat : Nat), .int .i64 g.tup.proto, .int .i64 g.tup.sport, .int .i64 g.tup.dport, .int .i64 g.back, .int .i64 g.gen, .int .i64 g.seen])).run Tryz.prog w = .ok (decide (f = g)) w := by
  rw [show decide (f = g) = sameFl { (default : RecD) with tup := f.tup, fb := f.back, fg := f.gen, fs := f.seen } { (default : RecD) with tup := g.tup, fb := g.back, fg := g.gen, fs := g.seen } from ?_]
  · exact eqFl_run { (default : RecD) with tup := f.tup, fb := f.back, fg := f.gen, fs := f.seen } { (default : RecD) with tup := g.tup, fb := g.back, fg := g.gen, fs := g.seen } w
  · have ht := sameT_iff (a := f.tup) (b := g.tup)
    obtain ⟨t, a, b, c⟩ := f
    obtain ⟨t', a', b', c'⟩ := g
    unfold sameFl
    simp only at ht ⊢
    cases h : sameT t t'
    · have : t ≠ t' := fun e => by rw [ht.2 e] at h; cases h
      simp [this]
    · have := ht.1 h
      subst this
      simp
      by_cases h1 : a = a' <;> by_cases h2 : b = b' <;> by_cases h3 : c = c' <;> simp [h1, h2, h3]
theorem eqD_run (d e : Int × Int) (w : World) : (Op.equalIn 10000 118 (.agg #[.int .i64 d.1, .int .i64 d.2]) (.agg #[.int .i64 e.1, .int .i64 e.2])).run Tryz.prog w = .ok (decide (d = e)) w := by
  have u3 := Tryz.underlying3
  have u2 := Tryz.underlying2
  have a3 := Tryz.isAgg3
  have z3 := Tryz.sizeOf3
  have a2 := Tryz.isAgg2
  have z2 := Tryz.sizeOf2
  have hS : Tryz.prog.underlying 118 = some (.struct (Tryz.prog.fieldsOf 118)) := by kernel_rfl
  have hp : Tryz.prog.stoodInHeld 118 = false := by kernel_rfl
  rw [show (10000 : Nat) = 9999 + 1 from rfl, run_equalIn_agg w 9999 118 _ _ hS hp]
  simp only [Program.fieldsOf, Tryz.underlying118]
  clear hS hp
  go_simp
  obtain ⟨a, b⟩ := d
  obtain ⟨a', b'⟩ := e
  simp only [Prod.mk.injEq]
  clear u3 u2 a3 z3 a2 z2
  repeat' split
  all_goals simp_all
theorem same_drop {α : Type} [DecidableEq α] {l l' : List α} {k : Nat} (h : k < l.length) (h' : k < l'.length) : decide (l.drop k = l'.drop k) = (decide (l[k] = l'[k]) && decide (l.drop (k + 1) = l'.drop (k + 1))) := by
  rw [← List.getElem_cons_drop (h := h), ← List.getElem_cons_drop (h := h')]
  simp only [List.cons.injEq, Bool.decide_and]
theorem same_len {α : Type} [DecidableEq α] {l l' : List α} (h : l.length ≠ l'.length) : decide (l = l') = false := decide_eq_false fun e => h (by rw [e])
abbrev DrArr (w : World) (G : List Nat) (v : Value) (l : List (Int × Int)) : Prop := ArrOf w G 2 (fun w => DrDec w G) v l
theorem DrArr.kept {w w' : World} {G S : List Nat} {v : Value} {l : List (Int × Int)} (h : DrArr w G v l) (hk : Kept S w w') (hd : ∀ k ∈ G, k ∉ S) : DrArr w' G v l :=
  ArrOf.kept (Dec := fun w => DrDec w G) h hk hd (fun cs a h => h)
theorem DrArr.at {w : World} {G : List Nat} {A : Option Addr} {m c : Nat} {l : List (Int × Int)} (h : DrArr w G (.slice A m c) l) {k : Nat} (hk : k < l.length) :
    ∃ g o, A = some ⟨g, o, none⟩ ∧ g < w.heap.size ∧ g ∈ G ∧ w.cell? ⟨g, o + k * 2, none⟩ = some (.int .i64 l[k].1) ∧ w.cell? ⟨g, o + k * 2 + 1, none⟩ = some (.int .i64 l[k].2) := by
  obtain ⟨A', m', c', e, h1, h2, h3, h4, h5⟩ := h
  injection e with e1 e2 e3
  subst e1 e2 e3
  obtain ⟨g, o, rfl, hg, hlt, hc⟩ := h5 (by rintro rfl; simp at hk)
  obtain ⟨cs, _, rfl, hcell⟩ := hc k _ (List.getElem?_eq_getElem hk)
  have F : ∀ j, j < 2 → w.cell? ⟨g, o + k * 2 + j, none⟩ = (drC l[k])[j]? := fun j hj => by
    have := hcell j hj
    rwa [← Nat.add_assoc] at this
  exact ⟨g, o, rfl, hlt, hg, F 0 (by omega), F 1 (by omega)⟩
theorem DrArr.len {w : World} {G : List Nat} {A : Option Addr} {m c : Nat} {l : List (Int × Int)} (h : DrArr w G (.slice A m c) l) : l.length = m ∧ m ≤ c ∧ c ≤ maxLen ∧ (A = none → m = 0 ∧ c = 0) := by
  obtain ⟨A', m', c', e, h1, h2, h3, h4, h5⟩ := h
  injection e with e1 e2 e3
  subst e1 e2 e3
  exact ⟨h1, h2, h3, h4⟩
abbrev FlArr (w : World) (G : List Nat) (v : Value) (l : List (FlD)) : Prop := ArrOf w G 8 (fun w => FlDec w G) v l
theorem FlArr.kept {w w' : World} {G S : List Nat} {v : Value} {l : List (FlD)} (h : FlArr w G v l) (hk : Kept S w w') (hd : ∀ k ∈ G, k ∉ S) : FlArr w' G v l :=
  ArrOf.kept (Dec := fun w => FlDec w G) h hk hd (fun cs a h => h)
theorem FlArr.at {w : World} {G : List Nat} {A : Option Addr} {m c : Nat} {l : List (FlD)} (h : FlArr w G (.slice A m c) l) {k : Nat} (hk : k < l.length) :
    ∃ g o, A = some ⟨g, o, none⟩ ∧ g < w.heap.size ∧ g ∈ G ∧ w.cell? ⟨g, o + k * 8, none⟩ = some (.int .u32 (l[k].tup.src.toNat : Nat)) ∧ w.cell? ⟨g, o + k * 8 + 1, none⟩ = some (.int .u32 (l[k].tup.dst.toNat : Nat)) ∧ w.cell? ⟨g, o + k * 8 + 2, none⟩ = some (.int .i64 l[k].tup.proto) ∧ w.cell? ⟨g, o + k * 8 + 3, none⟩ = some (.int .i64 l[k].tup.sport) ∧ w.cell? ⟨g, o + k * 8 + 4, none⟩ = some (.int .i64 l[k].tup.dport) ∧ w.cell? ⟨g, o + k * 8 + 5, none⟩ = some (.int .i64 l[k].back) ∧ w.cell? ⟨g, o + k * 8 + 6, none⟩ = some (.int .i64 l[k].gen) ∧ w.cell? ⟨g, o + k * 8 + 7, none⟩ = some (.int .i64 l[k].seen) := by
  obtain ⟨A', m', c', e, h1, h2, h3, h4, h5⟩ := h
  injection e with e1 e2 e3
  subst e1 e2 e3
  obtain ⟨g, o, rfl, hg, hlt, hc⟩ := h5 (by rintro rfl; simp at hk)
  obtain ⟨cs, _, rfl, hcell⟩ := hc k _ (List.getElem?_eq_getElem hk)
  have F : ∀ j, j < 8 → w.cell? ⟨g, o + k * 8 + j, none⟩ = (flC l[k])[j]? := fun j hj => by
    have := hcell j hj
    rwa [← Nat.add_assoc] at this
  exact ⟨g, o, rfl, hlt, hg, F 0 (by omega), F 1 (by omega), F 2 (by omega), F 3 (by omega), F 4 (by omega), F 5 (by omega), F 6 (by omega), F 7 (by omega)⟩
theorem FlArr.len {w : World} {G : List Nat} {A : Option Addr} {m c : Nat} {l : List (FlD)} (h : FlArr w G (.slice A m c) l) : l.length = m ∧ m ≤ c ∧ c ≤ maxLen ∧ (A = none → m = 0 ∧ c = 0) := by
  obtain ⟨A', m', c', e, h1, h2, h3, h4, h5⟩ := h
  injection e with e1 e2 e3
  subst e1 e2 e3
  exact ⟨h1, h2, h3, h4⟩
set_option maxHeartbeats 1600000 in
theorem EqualD_any (w : World) {G1 G2 : List Nat} {A B : Option Addr} {m c n d : Nat} (l l' : List (Int × Int)) (h1 : DrArr w G1 (.slice A m c) l) (h2 : DrArr w G2 (.slice B n d) l') :
    Calls Tryz.prog 93 #[.slice A m c, .slice B n d] w fun e w' => e = .returned (.bool (decide (l = l'))) ∧ Kept [] w w' := by
  obtain ⟨a1, a2, a3, a4⟩ := h1.len
  obtain ⟨b1, b2, b3, b4⟩ := h2.len
  have H1 := Lib.hid h1
  have H2 := Lib.hid h2
  have A1 := Lib.hid a1
  have B1 := Lib.hid b1
  clear h1 h2 a1 b1 a4 b4
  unfold maxLen at a3 b3
  by_cases hmn : m = n
  · subst hmn
    go_enter Tryz.func93, Tryz.ntmps93
    go_wp2
    go_loopg [13] m (fun g i wr => ∃ k : Nat, k ≤ m ∧ g = m - k ∧ i = .int .i64 k ∧ decide (l = l') = decide (l.drop k = l'.drop k) ∧ Kept [] w wr)
    case atStart => exact ⟨0, by omega, by omega, rfl, by simp, Kept.refl _ _⟩
    case round =>
      obtain ⟨k, hk, rfl, rfl, hs, hkw⟩ := hrel
      have Hs := Lib.hid hs
      have Hkw := Lib.hid hkw
      clear hs hkw
      by_cases hlt : k < m
      · have hkl : k < l.length := by rw [A1.out]; exact hlt
        have hkl' : k < l'.length := by rw [B1.out]; exact hlt
        obtain ⟨g, o, rfl, hg, hgG, c0, c1⟩ := (DrArr.kept H1.out Hkw.out (by simp)).at (k := k) hkl
        obtain ⟨g', o', rfl, hg', hgG', c0', c1'⟩ := (DrArr.kept H2.out Hkw.out (by simp)).at (k := k) hkl'
        have Hd := Lib.hid (same_drop (l := l) (l' := l') hkl hkl')
        generalize l[k]'hkl = f at *
        generalize l'[k]'hkl' = f' at *
        clear hkl hkl'
        have i0 : (0 : Int) ≤ (k : Int) := by omega
        have i1 : (k : Int) < (m : Int) := by omega
        have hq := eqD_run f f'
        have hg : Tryz.prog.eqGuardType Tryz.prog.depth 118 = false := by kernel_rfl
        have Hb : ∃ b, decide (f = f') = b := ⟨_, rfl⟩
        obtain ⟨b, hb⟩ := Hb
        rw [hb] at hq Hd
        clear hb
        go_wp2
        go_quiet (fail)
        clear hq hg c0 c1 c0' c1'
        cases b
        · have hres := Lib.hid (show decide (l = l') = false by rw [Hs.out, Hd.out]; rfl)
          go_wp2
          go_ret
          exact ⟨ret_bool hres.out.symm, Hkw.out.drewN _⟩
        · have hres := Lib.hid (show decide (l = l') = decide (l.drop (k + 1) = l'.drop (k + 1)) by rw [Hs.out, Hd.out]; rfl)
          go_wp2
          go_roundg (m - (k + 1))
          case measure => omega
          case rel => exact ⟨k + 1, by omega, rfl, by go_num, hres.out, Hkw.out.drewN _⟩
      · have hres := Lib.hid (show decide (l = l') = true by
          rw [Hs.out, List.drop_of_length_le (by rw [A1.out]; omega), List.drop_of_length_le (by rw [B1.out]; omega)]; simp)
        go_wp2
        go_ret
        exact ⟨ret_bool hres.out.symm, Hkw.out⟩
  · have hres := Lib.hid (show decide (l = l') = false from same_len (by rw [A1.out, B1.out]; exact hmn))
    have hne : (((m : Nat) : Int) != ((n : Nat) : Int)) = true := by simp; omega
    clear hmn
    go_enter Tryz.func93, Tryz.ntmps93
    go_wp2
    go_ret
    exact ⟨ret_bool hres.out.symm, Kept.refl _ _⟩
set_option maxHeartbeats 1600000 in
theorem EqualF_any (w : World) {G1 G2 : List Nat} {A B : Option Addr} {m c n d : Nat} (l l' : List (FlD)) (h1 : FlArr w G1 (.slice A m c) l) (h2 : FlArr w G2 (.slice B n d) l') :
    Calls Tryz.prog 94 #[.slice A m c, .slice B n d] w fun e w' => e = .returned (.bool (decide (l = l'))) ∧ Kept [] w w' := by
  obtain ⟨a1, a2, a3, a4⟩ := h1.len
  obtain ⟨b1, b2, b3, b4⟩ := h2.len
  have H1 := Lib.hid h1
  have H2 := Lib.hid h2
  have A1 := Lib.hid a1
  have B1 := Lib.hid b1
  clear h1 h2 a1 b1 a4 b4
  unfold maxLen at a3 b3
  by_cases hmn : m = n
  · subst hmn
    go_enter Tryz.func94, Tryz.ntmps94
    go_wp2
    go_loopg [13] m (fun g i wr => ∃ k : Nat, k ≤ m ∧ g = m - k ∧ i = .int .i64 k ∧ decide (l = l') = decide (l.drop k = l'.drop k) ∧ Kept [] w wr)
    case atStart => exact ⟨0, by omega, by omega, rfl, by simp, Kept.refl _ _⟩
    case round =>
      obtain ⟨k, hk, rfl, rfl, hs, hkw⟩ := hrel
      have Hs := Lib.hid hs
      have Hkw := Lib.hid hkw
      clear hs hkw
      by_cases hlt : k < m
      · have hkl : k < l.length := by rw [A1.out]; exact hlt
        have hkl' : k < l'.length := by rw [B1.out]; exact hlt
        obtain ⟨g, o, rfl, hg, hgG, c0, c1, c2, c3, c4, c5, c6, c7⟩ := (FlArr.kept H1.out Hkw.out (by simp)).at (k := k) hkl
        obtain ⟨g', o', rfl, hg', hgG', c0', c1', c2', c3', c4', c5', c6', c7'⟩ := (FlArr.kept H2.out Hkw.out (by simp)).at (k := k) hkl'
        have Hd := Lib.hid (same_drop (l := l) (l' := l') hkl hkl')
        generalize l[k]'hkl = f at *
        generalize l'[k]'hkl' = f' at *
        clear hkl hkl'
        have i0 : (0 : Int) ≤ (k : Int) := by omega
        have i1 : (k : Int) < (m : Int) := by omega
        have hq := eqF_run f f'
        have hg : Tryz.prog.eqGuardType Tryz.prog.depth 41 = false := by kernel_rfl
        have Hb : ∃ b, decide (f = f') = b := ⟨_, rfl⟩
        obtain ⟨b, hb⟩ := Hb
        rw [hb] at hq Hd
        clear hb
        go_wp2
        go_quiet (fail)
        clear hq hg c0 c1 c2 c3 c4 c5 c6 c7 c0' c1' c2' c3' c4' c5' c6' c7'
        cases b
        · have hres := Lib.hid (show decide (l = l') = false by rw [Hs.out, Hd.out]; rfl)
          go_wp2
          go_ret
          exact ⟨ret_bool hres.out.symm, Hkw.out.drewN _⟩
        · have hres := Lib.hid (show decide (l = l') = decide (l.drop (k + 1) = l'.drop (k + 1)) by rw [Hs.out, Hd.out]; rfl)
          go_wp2
          go_roundg (m - (k + 1))
          case measure => omega
          case rel => exact ⟨k + 1, by omega, rfl, by go_num, hres.out, Hkw.out.drewN _⟩
      · have hres := Lib.hid (show decide (l = l') = true by
          rw [Hs.out, List.drop_of_length_le (by rw [A1.out]; omega), List.drop_of_length_le (by rw [B1.out]; omega)]; simp)
        go_wp2
        go_ret
        exact ⟨ret_bool hres.out.symm, Hkw.out⟩
  · have hres := Lib.hid (show decide (l = l') = false from same_len (by rw [A1.out, B1.out]; exact hmn))
    have hne : (((m : Nat) : Int) != ((n : Nat) : Int)) = true := by simp; omega
    clear hmn
    go_enter Tryz.func94, Tryz.ntmps94
    go_wp2
    go_ret
    exact ⟨ret_bool hres.out.symm, Kept.refl _ _⟩
set_option maxHeartbeats 1600000 in
theorem rSameD_any (w : World) {G1 G2 : List Nat} {A B : Option Addr} {m c n d : Nat} (l l' : List (Int × Int)) (h1 : DrArr w G1 (.slice A m c) l) (h2 : DrArr w G2 (.slice B n d) l') :
    Calls Tryz.prog 41 #[.slice A m c, .slice B n d] w fun e w' => e = .returned (.bool (decide (l = l'))) ∧ Kept [] w w' := by
  obtain ⟨a1, a2, a3, a4⟩ := h1.len
  obtain ⟨b1, b2, b3, b4⟩ := h2.len
  have H1 := Lib.hid h1
  have H2 := Lib.hid h2
  have A1 := Lib.hid a1
  have B1 := Lib.hid b1
  clear h1 h2 a1 b1 a4 b4
  unfold maxLen at a3 b3
  by_cases hmn : m = n
  · subst hmn
    go_enter Tryz.func41, Tryz.ntmps41
    go_wp2
    go_loopg [13] m (fun g i wr => ∃ k : Nat, k ≤ m ∧ g = m - k ∧ i = .int .i64 k ∧ decide (l = l') = decide (l.drop k = l'.drop k) ∧ Kept [] w wr)
    case atStart => exact ⟨0, by omega, by omega, rfl, by simp, Kept.refl _ _⟩
    case round =>
      obtain ⟨k, hk, rfl, rfl, hs, hkw⟩ := hrel
      have Hs := Lib.hid hs
      have Hkw := Lib.hid hkw
      clear hs hkw
      by_cases hlt : k < m
      · have hkl : k < l.length := by rw [A1.out]; exact hlt
        have hkl' : k < l'.length := by rw [B1.out]; exact hlt
        obtain ⟨g, o, rfl, hg, hgG, c0, c1⟩ := (DrArr.kept H1.out Hkw.out (by simp)).at (k := k) hkl
        obtain ⟨g', o', rfl, hg', hgG', c0', c1'⟩ := (DrArr.kept H2.out Hkw.out (by simp)).at (k := k) hkl'
        have Hd := Lib.hid (same_drop (l := l) (l' := l') hkl hkl')
        generalize l[k]'hkl = f at *
        generalize l'[k]'hkl' = f' at *
        clear hkl hkl'
        have i0 : (0 : Int) ≤ (k : Int) := by omega
        have i1 : (k : Int) < (m : Int) := by omega
        have hq := eqD_run f f'
        have hg : Tryz.prog.eqGuardType Tryz.prog.depth 118 = false := by kernel_rfl
        have Hb : ∃ b, decide (f = f') = b := ⟨_, rfl⟩
        obtain ⟨b, hb⟩ := Hb
        rw [hb] at hq Hd
        clear hb
        go_wp2
        go_quiet (fail)
        clear hq hg c0 c1 c0' c1'
        cases b
        · have hres := Lib.hid (show decide (l = l') = false by rw [Hs.out, Hd.out]; rfl)
          go_wp2
          go_ret
          exact ⟨ret_bool hres.out.symm, Hkw.out.drewN _⟩
        · have hres := Lib.hid (show decide (l = l') = decide (l.drop (k + 1) = l'.drop (k + 1)) by rw [Hs.out, Hd.out]; rfl)
          go_wp2
          go_roundg (m - (k + 1))
          case measure => omega
          case rel => exact ⟨k + 1, by omega, rfl, by go_num, hres.out, Hkw.out.drewN _⟩
      · have hres := Lib.hid (show decide (l = l') = true by
          rw [Hs.out, List.drop_of_length_le (by rw [A1.out]; omega), List.drop_of_length_le (by rw [B1.out]; omega)]; simp)
        go_wp2
        go_ret
        exact ⟨ret_bool hres.out.symm, Hkw.out⟩
  · have hres := Lib.hid (show decide (l = l') = false from same_len (by rw [A1.out, B1.out]; exact hmn))
    have hne : (((m : Nat) : Int) != ((n : Nat) : Int)) = true := by simp; omega
    clear hmn
    go_enter Tryz.func41, Tryz.ntmps41
    go_wp2
    go_ret
    exact ⟨ret_bool hres.out.symm, Kept.refl _ _⟩
set_option maxHeartbeats 1600000 in
theorem rSameF_any (w : World) {G1 G2 : List Nat} {A B : Option Addr} {m c n d : Nat} (l l' : List (FlD)) (h1 : FlArr w G1 (.slice A m c) l) (h2 : FlArr w G2 (.slice B n d) l') :
    Calls Tryz.prog 42 #[.slice A m c, .slice B n d] w fun e w' => e = .returned (.bool (decide (l = l'))) ∧ Kept [] w w' := by
  obtain ⟨a1, a2, a3, a4⟩ := h1.len
  obtain ⟨b1, b2, b3, b4⟩ := h2.len
  have H1 := Lib.hid h1
  have H2 := Lib.hid h2
  have A1 := Lib.hid a1
  have B1 := Lib.hid b1
  clear h1 h2 a1 b1 a4 b4
  unfold maxLen at a3 b3
  by_cases hmn : m = n
  · subst hmn
    go_enter Tryz.func42, Tryz.ntmps42
    go_wp2
    go_loopg [13] m (fun g i wr => ∃ k : Nat, k ≤ m ∧ g = m - k ∧ i = .int .i64 k ∧ decide (l = l') = decide (l.drop k = l'.drop k) ∧ Kept [] w wr)
    case atStart => exact ⟨0, by omega, by omega, rfl, by simp, Kept.refl _ _⟩
    case round =>
      obtain ⟨k, hk, rfl, rfl, hs, hkw⟩ := hrel
      have Hs := Lib.hid hs
      have Hkw := Lib.hid hkw
      clear hs hkw
      by_cases hlt : k < m
      · have hkl : k < l.length := by rw [A1.out]; exact hlt
        have hkl' : k < l'.length := by rw [B1.out]; exact hlt
        obtain ⟨g, o, rfl, hg, hgG, c0, c1, c2, c3, c4, c5, c6, c7⟩ := (FlArr.kept H1.out Hkw.out (by simp)).at (k := k) hkl
        obtain ⟨g', o', rfl, hg', hgG', c0', c1', c2', c3', c4', c5', c6', c7'⟩ := (FlArr.kept H2.out Hkw.out (by simp)).at (k := k) hkl'
        have Hd := Lib.hid (same_drop (l := l) (l' := l') hkl hkl')
        generalize l[k]'hkl = f at *
        generalize l'[k]'hkl' = f' at *
        clear hkl hkl'
        have i0 : (0 : Int) ≤ (k : Int) := by omega
        have i1 : (k : Int) < (m : Int) := by omega
        have hq := eqF_run f f'
        have hg : Tryz.prog.eqGuardType Tryz.prog.depth 41 = false := by kernel_rfl
        have Hb : ∃ b, decide (f = f') = b := ⟨_, rfl⟩
        obtain ⟨b, hb⟩ := Hb
        rw [hb] at hq Hd
        clear hb
        go_wp2
        go_quiet (fail)
        clear hq hg c0 c1 c2 c3 c4 c5 c6 c7 c0' c1' c2' c3' c4' c5' c6' c7'
        cases b
        · have hres := Lib.hid (show decide (l = l') = false by rw [Hs.out, Hd.out]; rfl)
          go_wp2
          go_ret
          exact ⟨ret_bool hres.out.symm, Hkw.out.drewN _⟩
        · have hres := Lib.hid (show decide (l = l') = decide (l.drop (k + 1) = l'.drop (k + 1)) by rw [Hs.out, Hd.out]; rfl)
          go_wp2
          go_roundg (m - (k + 1))
          case measure => omega
          case rel => exact ⟨k + 1, by omega, rfl, by go_num, hres.out, Hkw.out.drewN _⟩
      · have hres := Lib.hid (show decide (l = l') = true by
          rw [Hs.out, List.drop_of_length_le (by rw [A1.out]; omega), List.drop_of_length_le (by rw [B1.out]; omega)]; simp)
        go_wp2
        go_ret
        exact ⟨ret_bool hres.out.symm, Hkw.out⟩
  · have hres := Lib.hid (show decide (l = l') = false from same_len (by rw [A1.out, B1.out]; exact hmn))
    have hne : (((m : Nat) : Int) != ((n : Nat) : Int)) = true := by simp; omega
    clear hmn
    go_enter Tryz.func42, Tryz.ntmps42
    go_wp2
    go_ret
    exact ⟨ret_bool hres.out.symm, Kept.refl _ _⟩
end
section
open Go.RowKit Go.ChangeShapes Go.WideShapes Go.ChangeAt Go.Deep Go.MapKept
structure VA (w : World) (G : List Nat) (A1 : Option Addr) (m1 c1 : Nat) (A2 : Option Addr) (m2 c2 : Nat) (A3 : Option Addr) (m3 c3 : Nat) (V : VwD) : Prop where
  bk : BkArr w G (.slice A1 m1 c1) V.backs
  dr : DrArr w G (.slice A2 m2 c2) V.drains
  fl : FlArr w G (.slice A3 m3 c3) V.flows
  lt : ∀ k ∈ G, k < w.heap.size
theorem VA.kept {w w' : World} {G S : List Nat} {A1 A2 A3 : Option Addr} {m1 c1 m2 c2 m3 c3 : Nat} {V : VwD} (h : VA w G A1 m1 c1 A2 m2 c2 A3 m3 c3 V) (hk : Kept S w w') (hd : ∀ k ∈ G, k ∉ S) : VA w' G A1 m1 c1 A2 m2 c2 A3 m3 c3 V :=
  ⟨BkArr.kept h.bk hk hd, DrArr.kept h.dr hk hd, FlArr.kept h.fl hk hd, fun k hm => Nat.lt_of_lt_of_le (h.lt k hm) hk.size⟩
theorem VA.go {w w' : World} {G : List Nat} {A1 A2 A3 : Option Addr} {m1 c1 m2 c2 m3 c3 : Nat} {V : VwD} (h : VA w G A1 m1 c1 A2 m2 c2 A3 m3 c3 V) (hk : Kept [] w w') : VA w' G A1 m1 c1 A2 m2 c2 A3 m3 c3 V := h.kept hk (by simp)
theorem arr_mono {α : Type} {n : Nat} {Dec : World → List Nat → List Value → α → Prop} (D : DecOk n Dec) {w : World} {G G' : List Nat} {v : Value} {l : List α} (h : ArrOf w G n (fun w => Dec w G) v l) (hg : ∀ k ∈ G, k ∈ G') : ArrOf w G' n (fun w => Dec w G') v l := by
  obtain ⟨A, m, c, e, h1, h2, h3, h4, h5⟩ := h
  refine ⟨A, m, c, e, h1, h2, h3, h4, fun hne => ?_⟩
  obtain ⟨g, o, e2, hm, hlt, hc⟩ := h5 hne
  refine ⟨g, o, e2, hg g hm, hlt, fun i a hi => ?_⟩
  obtain ⟨cs, hl, hd, hcell⟩ := hc i a hi
  exact ⟨cs, hl, D.mono hd hg, hcell⟩
theorem lv_row {α : Type} {n : Nat} {e : TypeId} {Dec : World → List Nat → List Value → α → Prop} (D : DecOk n Dec) (hD : ∀ {w : World} {G G' : List Nat} {cs : List Value} {a : α}, Dec w G cs a → Dec w G' cs a) {W w : World} {v : Value} {l : List α} (h : LV Dec e n W w v l) :
    ArrOf w (rowOf v) n (fun w => Dec w (rowOf v)) v l ∧ ∀ k ∈ rowOf v, W.heap.size ≤ k ∧ k < w.heap.size := by
  obtain ⟨css, G, hx⟩ := h
  have hy : LVx Dec e n W w v l css [] := ⟨hx.own, hx.new, ⟨hx.decs.1, fun i cs a h1 h2 => hD (hx.decs.2 i cs a h1 h2)⟩, by simp, hx.keptW⟩
  have := hy.arr D
  rw [List.nil_append] at this
  exact ⟨this, fun k hk => ⟨hx.new k hk, hx.own.lt k hk⟩⟩
theorem Vw3.va {w wx : World} {A1 A2 A3 : Option Addr} {m1 c1 m2 c2 m3 c3 : Nat} {V : VwD} (h : Vw3 w wx A1 m1 c1 A2 m2 c2 A3 m3 c3 V.backs V.drains V.flows) : ∃ G, VA wx G A1 m1 c1 A2 m2 c2 A3 m3 c3 V ∧ ∀ k ∈ G, w.heap.size ≤ k := by
  obtain ⟨b1, b2⟩ := lv_row BkOk (fun h => h) h.bk
  obtain ⟨d1, d2⟩ := lv_row DrOk (fun h => h) h.dr
  obtain ⟨f1, f2⟩ := lv_row FlOk (fun h => h) h.fl
  have hx : ∀ k ∈ rowOf (.slice A1 m1 c1) ++ (rowOf (.slice A2 m2 c2) ++ rowOf (.slice A3 m3 c3)), w.heap.size ≤ k ∧ k < wx.heap.size := by
    intro k hk
    rcases List.mem_append.1 hk with hk | hk
    · exact b2 k hk
    · rcases List.mem_append.1 hk with hk | hk
      · exact d2 k hk
      · exact f2 k hk
  exact ⟨_, ⟨arr_mono BkOk b1 (fun k hk => by simp [hk]), arr_mono DrOk d1 (fun k hk => by simp [hk]), arr_mono FlOk f1 (fun k hk => by simp [hk]), fun k hk => (hx k hk).2⟩, fun k hk => (hx k hk).1⟩
def sameV (V V' : VwD) : Bool := (V.gen == V'.gen) && (sameBs V.backs V'.backs && (decide (V.drains = V'.drains) && decide (V.flows = V'.flows)))
theorem sameB_self (b : BackD) : sameB b b = true := by unfold sameB; simp
theorem sameBs_self : ∀ l : List BackD, sameBs l l = true
  | [] => rfl
  | b :: l => by unfold sameBs; rw [sameB_self, sameBs_self l]; rfl
theorem sameV_self (V : VwD) : sameV V V = true := by
  unfold sameV
  rw [sameBs_self]
  simp
theorem IsView.one {S : StD} (ok : OkS S) {V V' : VwD} (h : IsView S V) (h' : IsView S V') : V = V' := by
  obtain ⟨g, b, d, f⟩ := V
  obtain ⟨g', b', d', f'⟩ := V'
  obtain ⟨h1, h2, h3, h4, h5, h6⟩ := h
  obtain ⟨k1, k2, k3, k4, k5, k6⟩ := h'
  simp only at *
  have hd : d = d' := sorted_one (fun a b h1 h2 => by omega) (h3.trans k3.symm) h4 k4
  have hf : f = f' := sorted_one (fun a b h1 h2 => by
    have := less_trans h1 h2
    rw [less_irr] at this
    cases this) (h5.trans k5.symm) h6 k6
  rw [h1, h2, k1, k2, hd, hf]
set_option maxHeartbeats 3200000 in
theorem StSame_any (w : World) {G G' : List Nat} {A1 A2 A3 B1 B2 B3 : Option Addr} {m1 c1 m2 c2 m3 c3 n1 d1 n2 d2 n3 d3 : Nat} (V V' : VwD) (h : VA w G A1 m1 c1 A2 m2 c2 A3 m3 c3 V) (h' : VA w G' B1 n1 d1 B2 n2 d2 B3 n3 d3 V') :
    Calls Tryz.prog 54 #[.agg #[.int .i64 V.gen, .slice A1 m1 c1, .slice A2 m2 c2, .slice A3 m3 c3], .agg #[.int .i64 V'.gen, .slice B1 n1 d1, .slice B2 n2 d2, .slice B3 n3 d3]] w fun e w' => e = .returned (.bool (sameV V V')) ∧ Kept [] w w' := by
  have X0 := Lib.hid (Blk.alloc (Blk.new w 26 #[.int .i64 V.gen, .slice A1 m1 c1, .slice A2 m2 c2, .slice A3 m3 c3]) (.cells #[.int .i64 V'.gen, .slice B1 n1 d1, .slice B2 n2 d2, .slice B3 n3 d3] 26 (0, 0)))
  have Y0 := Lib.hid (show Blk ((w.alloc (.cells #[.int .i64 V.gen, .slice A1 m1 c1, .slice A2 m2 c2, .slice A3 m3 c3] 26)).alloc (.cells #[.int .i64 V'.gen, .slice B1 n1 d1, .slice B2 n2 d2, .slice B3 n3 d3] 26)) (w.heap.size + 1) 26 #[.int .i64 V'.gen, .slice B1 n1 d1, .slice B2 n2 d2, .slice B3 n3 d3] from by (repeat (first | (apply Blk.new'; simp; done) | apply Blk.alloc | apply Blk.drew)))
  have K0 := Lib.hid (((Kept.refl [] w).alloc (.cells #[.int .i64 V.gen, .slice A1 m1 c1, .slice A2 m2 c2, .slice A3 m3 c3] 26)).alloc (.cells #[.int .i64 V'.gen, .slice B1 n1 d1, .slice B2 n2 d2, .slice B3 n3 d3] 26))
  have H := Lib.hid h
  have H' := Lib.hid h'
  have Hv := Lib.hid (show sameV V V' = ((V.gen == V'.gen) && (sameBs V.backs V'.backs && (decide (V.drains = V'.drains) && decide (V.flows = V'.flows)))) from rfl)
  clear h h'
  have HA := Lib.hid (H.out.go K0.out)
  have HB := Lib.hid (H'.out.go K0.out)
  obtain ⟨b2, hb2⟩ : ∃ b, sameBs V.backs V'.backs = b := ⟨_, rfl⟩
  obtain ⟨b3, hb3⟩ : ∃ b, decide (V.drains = V'.drains) = b := ⟨_, rfl⟩
  obtain ⟨b4, hb4⟩ : ∃ b, decide (V.flows = V'.flows) = b := ⟨_, rfl⟩
  rw [hb2, hb3, hb4] at Hv
  have HB2 := Lib.hid hb2
  have HB3 := Lib.hid hb3
  have HB4 := Lib.hid hb4
  clear hb2 hb3 hb4 H H'
  go_enter Tryz.func54, Tryz.ntmps54
  have hx0 := X0.out.cell
  have hy0 := Y0.out.cell
  cases h1 : (V.gen == V'.gen)
  · have hres := Lib.hid (show sameV V V' = false by rw [Hv.out, h1]; rfl)
    go_wp2
    go_ret
    exact ⟨ret_bool hres.out.symm, K0.out⟩
  · rw [h1] at Hv
    cases b2
    · have hres := Lib.hid (show sameV V V' = false by rw [Hv.out]; rfl)
      go_wp2_with (first
        | (go_at_call 92
           refine (EqualB_any _ _ _ HA.out.bk HB.out.bk).mono ?_
           rintro e w1 ⟨rfl, hk1⟩
           rw [HB2.out]
           have HA1 := Lib.hid (HA.out.go hk1)
           have HB1 := Lib.hid (HB.out.go hk1)
           have X1 := Lib.hid (X0.out.kept hk1 (by simp))
           have Y1 := Lib.hid (Y0.out.kept hk1 (by simp))
           have K1 := Lib.hid (K0.out.trans hk1 (by simp))
           have hx1 := X1.out.cell
           have hy1 := Y1.out.cell
           clear hk1))
      go_ret
      exact ⟨ret_bool hres.out.symm, K1.out⟩
    · cases b3
      · have hres := Lib.hid (show sameV V V' = false by rw [Hv.out]; rfl)
        go_wp2_with (first
          | (go_at_call 92
             refine (EqualB_any _ _ _ HA.out.bk HB.out.bk).mono ?_
             rintro e w1 ⟨rfl, hk1⟩
             rw [HB2.out]
             have HA1 := Lib.hid (HA.out.go hk1)
             have HB1 := Lib.hid (HB.out.go hk1)
             have X1 := Lib.hid (X0.out.kept hk1 (by simp))
             have Y1 := Lib.hid (Y0.out.kept hk1 (by simp))
             have K1 := Lib.hid (K0.out.trans hk1 (by simp))
             have hx1 := X1.out.cell
             have hy1 := Y1.out.cell
             clear hk1)
          | (go_at_call 93
             refine (EqualD_any _ _ _ HA1.out.dr HB1.out.dr).mono ?_
             rintro e w2 ⟨rfl, hk2⟩
             rw [HB3.out]
             have HA2 := Lib.hid (HA1.out.go hk2)
             have HB2 := Lib.hid (HB1.out.go hk2)
             have X2 := Lib.hid (X1.out.kept hk2 (by simp))
             have Y2 := Lib.hid (Y1.out.kept hk2 (by simp))
             have K2 := Lib.hid (K1.out.trans hk2 (by simp))
             have hx2 := X2.out.cell
             have hy2 := Y2.out.cell
             clear hk2))
        go_ret
        exact ⟨ret_bool hres.out.symm, K2.out⟩
      · have hres := Lib.hid (show sameV V V' = b4 by rw [Hv.out]; rfl)
        go_wp2_with (first
          | (go_at_call 92
             refine (EqualB_any _ _ _ HA.out.bk HB.out.bk).mono ?_
             rintro e w1 ⟨rfl, hk1⟩
             rw [HB2.out]
             have HA1 := Lib.hid (HA.out.go hk1)
             have HB1 := Lib.hid (HB.out.go hk1)
             have X1 := Lib.hid (X0.out.kept hk1 (by simp))
             have Y1 := Lib.hid (Y0.out.kept hk1 (by simp))
             have K1 := Lib.hid (K0.out.trans hk1 (by simp))
             have hx1 := X1.out.cell
             have hy1 := Y1.out.cell
             clear hk1)
          | (go_at_call 93
             refine (EqualD_any _ _ _ HA1.out.dr HB1.out.dr).mono ?_
             rintro e w2 ⟨rfl, hk2⟩
             rw [HB3.out]
             have HA2 := Lib.hid (HA1.out.go hk2)
             have HB2 := Lib.hid (HB1.out.go hk2)
             have X2 := Lib.hid (X1.out.kept hk2 (by simp))
             have Y2 := Lib.hid (Y1.out.kept hk2 (by simp))
             have K2 := Lib.hid (K1.out.trans hk2 (by simp))
             have hx2 := X2.out.cell
             have hy2 := Y2.out.cell
             clear hk2)
          | (go_at_call 94
             refine (EqualF_any _ _ _ HA2.out.fl HB2.out.fl).mono ?_
             rintro e w3 ⟨rfl, hk3⟩
             rw [HB4.out]
             have HA3 := Lib.hid (HA2.out.go hk3)
             have HB3 := Lib.hid (HB2.out.go hk3)
             have X3 := Lib.hid (X2.out.kept hk3 (by simp))
             have Y3 := Lib.hid (Y2.out.kept hk3 (by simp))
             have K3 := Lib.hid (K2.out.trans hk3 (by simp))
             have hx3 := X3.out.cell
             have hy3 := Y3.out.cell
             clear hk3))
        go_ret
        exact ⟨ret_bool hres.out.symm, K3.out⟩
end
end Go.Proofs.YtkacghjglicjiaaGreat
