/-
  Contracts: a frame that every program must know; rows of frames: the same?; Scan, the reference's Scan.
-/
import Derived.Test.YticjcmjodnedjaaFrameV
import Derived.Test.YticjcmjodnedjaaFrameM
import Derived.Test.YticjcmjodnedjaaRef1R
namespace Go.Proofs.Yticjcmjodnedjaa
open Go.RowKit Go.ChangeShapes Go.WideShapes Go.Deep
set_option linter.unusedVariables false

/-- cells that read a frame -/
def FrDec (w : World) (G : List Nat) (cs : List Value) (f : FrameD) : Prop := ∃ A m c, cs = [.int .i64 f.kind, .int .i64 f.ver, .slice A m c] ∧ RdB w G (.slice A m c) f.body
theorem FrOk : DecOk 3 FrDec where
  len := by rintro w G cs f ⟨A, m, c, rfl, h⟩; rfl
  one := by rintro w G cs f ⟨A, m, c, rfl, h⟩ u hu; simp at hu; rcases hu with rfl | rfl | rfl <;> rfl
  kept := by rintro w w' G S cs f ⟨A, m, c, rfl, h⟩ hk hd; exact ⟨A, m, c, rfl, h.kept hk hd⟩
  mono := by rintro w G G' cs f ⟨A, m, c, rfl, h⟩ hg; exact ⟨A, m, c, rfl, h.mono hg⟩
/-- a row of frames -/
abbrev FrArr (w : World) (G : List Nat) (v : Value) (l : List FrameD) : Prop := ArrOf w G 3 (fun w => FrDec w G) v l
abbrev FrV (W w : World) (v : Value) (l : List FrameD) : Prop := LV FrDec 59 3 W w v l
theorem FrArr.kept {w w' : World} {G S : List Nat} {v : Value} {l : List FrameD} (h : FrArr w G v l) (hk : Kept S w w') (hd : ∀ k ∈ G, k ∉ S) : FrArr w' G v l :=
  ArrOf.kept (Dec := fun w => FrDec w G) h hk hd (fun cs a h => FrOk.kept h hk hd)
theorem info_frame : (Try.prog.info? 59).map (fun i => (i.zero, i.size, i.bytes)) = some (some (.agg #[.int .i64 0, .int .i64 0, .slice none 0 0]), 3, 40) := by kernel_rfl
theorem elem_frame : Elem Try.prog 65 59 3 40 := Elem.mk' Try.underlying65 info_frame rfl (by omega)

set_option maxHeartbeats 800000 in
theorem awake4_any (w : World) : Calls Try.prog 42 #[] w fun e w' => e = .returned (.bool true) ∧ Kept [] w w' := by
  have he : putE ⟨1, 3, []⟩ = 0 := by decide
  have hl : (putF ⟨1, 3, []⟩).length = 16 := putF_len he
  have ht := take_put ⟨1, 3, []⟩ [] he
  rw [List.append_nil] at ht
  have Ht := Lib.hid ht
  have He := Lib.hid he
  have Hl := Lib.hid hl
  clear he hl ht
  go_enter Try.func42, Try.ntmps42
  go_wp2_with fail
  refine (Put_any _ [] none 0 0 ⟨1, 3, []⟩ (RdB.nil _ _)).mono ?_
  rintro e w1 ⟨v1, rfl, hn1⟩
  rw [He.out]
  rw [Hl.out] at hn1
  have Hr1 := Lib.hid (RdB.of_own hn1.1)
  have Hk1 := Lib.hid hn1.2.1
  obtain ⟨A1, c1, rfl, _, _⟩ := hn1.1.form
  clear hn1
  go_wp2_with fail
  refine (Take_any _ _ _ _ _ _ Hr1.out).mono ?_
  rintro e w2 ⟨v2, rfl, hn2⟩
  rw [Ht.out] at *
  simp only at *
  have Hk2 := Lib.hid hn2.2.1
  obtain ⟨A2, n2, c2, rfl⟩ := hn2.1.form'
  clear hn2
  go_wp2
  go_ret
  exact ⟨rfl, (Hk1.out.trans Hk2.out (by simp)).alloc _⟩

theorem sameFs_drop {l l' : List FrameD} {k : Nat} (h : k < l.length) (h' : k < l'.length) : sameFs (l.drop k) (l'.drop k) = (sameF l[k] l'[k] && sameFs (l.drop (k + 1)) (l'.drop (k + 1))) := by
  rw [← List.getElem_cons_drop (h := h), ← List.getElem_cons_drop (h := h')]; rfl
theorem sameFs_len : ∀ {l l' : List FrameD}, l.length ≠ l'.length → sameFs l l' = false
  | [], [], h => absurd rfl h
  | [], _ :: _, _ => rfl
  | _ :: _, [], _ => rfl
  | f :: l, g :: l', h => by simp [sameFs, sameFs_len (l := l) (l' := l') (by simpa using h)]

/-- one frame of an array: its cells -/
theorem FrArr.at {w : World} {G : List Nat} {A : Option Addr} {m c : Nat} {l : List FrameD} (h : FrArr w G (.slice A m c) l) {k : Nat} (hk : k < l.length) :
    ∃ g o B n d, A = some ⟨g, o, none⟩ ∧ g < w.heap.size ∧ g ∈ G ∧ w.cell? ⟨g, o + k * 3, none⟩ = some (.int .i64 l[k].kind) ∧ w.cell? ⟨g, o + k * 3 + 1, none⟩ = some (.int .i64 l[k].ver) ∧ w.cell? ⟨g, o + k * 3 + 2, none⟩ = some (.slice B n d) ∧ RdB w G (.slice B n d) l[k].body := by
  obtain ⟨A', m', c', e, h1, h2, h3, h4, h5⟩ := h
  injection e with e1 e2 e3
  subst e1 e2 e3
  obtain ⟨g, o, rfl, hg, hlt, hc⟩ := h5 (by rintro rfl; simp at hk)
  obtain ⟨cs, _, ⟨B, n, d, rfl, hr⟩, hcell⟩ := hc k _ (List.getElem?_eq_getElem hk)
  exact ⟨g, o, B, n, d, rfl, hlt, hg, by simpa using hcell 0 (by omega), by simpa [Nat.add_assoc] using hcell 1 (by omega), by simpa [Nat.add_assoc] using hcell 2 (by omega), hr⟩
theorem FrArr.len {w : World} {G : List Nat} {A : Option Addr} {m c : Nat} {l : List FrameD} (h : FrArr w G (.slice A m c) l) : l.length = m ∧ m ≤ c ∧ c ≤ maxLen ∧ (A = none → m = 0 ∧ c = 0) := by
  obtain ⟨A', m', c', e, h1, h2, h3, h4, h5⟩ := h
  injection e with e1 e2 e3
  subst e1 e2 e3
  exact ⟨h1, h2, h3, h4⟩

set_option maxHeartbeats 1600000 in
theorem rSames_any (w : World) {G1 G2 : List Nat} {A B : Option Addr} {m c n d : Nat} (l l' : List FrameD) (h1 : FrArr w G1 (.slice A m c) l) (h2 : FrArr w G2 (.slice B n d) l') :
    Calls Try.prog 51 #[.slice A m c, .slice B n d] w fun e w' => e = .returned (.bool (sameFs l l')) ∧ Kept [] w w' := by
  obtain ⟨a1, a2, a3, a4⟩ := h1.len
  obtain ⟨b1, b2, b3, b4⟩ := h2.len
  have H1 := Lib.hid h1
  have H2 := Lib.hid h2
  have A1 := Lib.hid a1
  have B1 := Lib.hid b1
  clear h1 h2 a1 b1 a4 b4
  unfold maxLen at a3 b3
  by_cases hmn : m = n
  · subst hmn
    go_enter Try.func51, Try.ntmps51
    go_wp2
    go_loopg [13] m (fun g i wr => ∃ k : Nat, k ≤ m ∧ g = m - k ∧ i = .int .i64 k ∧ sameFs l l' = sameFs (l.drop k) (l'.drop k) ∧ Kept [] w wr)
    case atStart => exact ⟨0, by omega, by omega, rfl, by simp, Kept.refl _ _⟩
    case round =>
      obtain ⟨k, hk, rfl, rfl, hs, hkw⟩ := hrel
      have Hs := Lib.hid hs
      have Hkw := Lib.hid hkw
      clear hs
      by_cases hlt : k < m
      · have hkl : k < l.length := by rw [A1.out]; exact hlt
        have hkl' : k < l'.length := by rw [B1.out]; exact hlt
        obtain ⟨g, o, B1', n1, d1, rfl, hg, hgG, c0, c1, c2, hr⟩ := (H1.out.kept hkw (by simp)).at (k := k) (by rw [A1.out]; exact hlt)
        obtain ⟨g', o', B2', n2, d2, rfl, hg', hgG', c0', c1', c2', hr'⟩ := (H2.out.kept hkw (by simp)).at (k := k) (by rw [B1.out]; exact hlt)
        have Hd := Lib.hid (sameFs_drop (l := l) (l' := l') (k := k) (by rw [A1.out]; exact hlt) (by rw [B1.out]; exact hlt))
        have Hr := Lib.hid hr
        have Hr' := Lib.hid hr'
        clear hr hr' hkw
        generalize l[k]'hkl = f at *
        generalize l'[k]'hkl' = f' at *
        clear hkl hkl'
        have i0 : (0 : Int) ≤ (k : Int) := by omega
        have i1 : (k : Int) < (m : Int) := by omega
        go_wp2
        go_region_held3 (fun w' => w'.cell? ⟨g, o + k * 3, none⟩ = some (.int .i64 f.kind) ∧ w'.cell? ⟨g, o + k * 3 + 1, none⟩ = some (.int .i64 f.ver) ∧ w'.cell? ⟨g, o + k * 3 + 2, none⟩ = some (.slice B1' n1 d1) ∧ w'.cell? ⟨g', o' + k * 3, none⟩ = some (.int .i64 f'.kind) ∧ w'.cell? ⟨g', o' + k * 3 + 1, none⟩ = some (.int .i64 f'.ver) ∧ w'.cell? ⟨g', o' + k * 3 + 2, none⟩ = some (.slice B2' n2 d2))
          (first | go_keep | (exact ⟨(hk2.cell (p := ⟨g, o + k * 3, none⟩) hg (by simp)).trans c0, (hk2.cell (p := ⟨g, o + k * 3 + 1, none⟩) hg (by simp)).trans c1, (hk2.cell (p := ⟨g, o + k * 3 + 2, none⟩) hg (by simp)).trans c2, (hk2.cell (p := ⟨g', o' + k * 3, none⟩) hg' (by simp)).trans c0', (hk2.cell (p := ⟨g', o' + k * 3 + 1, none⟩) hg' (by simp)).trans c1', (hk2.cell (p := ⟨g', o' + k * 3 + 2, none⟩) hg' (by simp)).trans c2'⟩))
          ((go_at_call 46
            refine (rSame_any _ f f' (Hr.out.kept (Kept.refl [] _).drew (by simp)) (Hr'.out.kept (Kept.refl [] _).drew (by simp))).mono ?_
            rintro e w2 ⟨rfl, hk2'⟩
            have hk2 := (Kept.refl [] wr).drew.trans hk2' (by simp)
            clear hk2'))
        have Hk2 := Lib.hid hk2
        clear hk2
        cases hsf : sameF f f'
        · have hres := Lib.hid (show sameFs l l' = false by rw [Hs.out, Hd.out, hsf]; rfl)
          clear hsf
          go_wp2
          go_ret
          exact ⟨by rw [hres.out]; rfl, Hkw.out.trans Hk2.out (by simp)⟩
        · have hres := Lib.hid (show sameFs l l' = sameFs (l.drop (k + 1)) (l'.drop (k + 1)) by rw [Hs.out, Hd.out, hsf]; rfl)
          clear hsf
          go_wp2
          go_roundg (m - (k + 1))
          case measure => omega
          case rel => exact ⟨k + 1, by omega, rfl, by go_num, hres.out, Hkw.out.trans Hk2.out (by simp)⟩
      · clear hkw
        go_wp2
        go_ret
        obtain rfl : k = m := by omega
        refine ⟨?_, Hkw.out⟩
        have h := Hs.out
        rw [List.drop_of_length_le (by rw [A1.out]; omega), List.drop_of_length_le (by rw [B1.out]; omega)] at h
        rw [h]; rfl
  · have hres := Lib.hid (show sameFs l l' = false from sameFs_len (by rw [A1.out, B1.out]; exact hmn))
    have hne : (((m : Nat) : Int) != ((n : Nat) : Int)) = true := by simp; omega
    clear hmn
    go_enter Try.func51, Try.ntmps51
    go_wp2
    go_ret
    exact ⟨by rw [hres.out]; rfl, Kept.refl _ _⟩
end Go.Proofs.Yticjcmjodnedjaa
