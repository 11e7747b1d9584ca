/-
  The walk of OctetStays.
-/
import Derived.Test.YticjcmjodnedjaaLawA
namespace Go.Proofs.Yticjcmjodnedjaa
open Go.RowKit Go.ChangeShapes Go.WideShapes
set_option linter.unusedVariables false

theorem tk_done (n : Int) : tk [] 2 n = ([], [], 2) := by simp [tk]
/-- a reader that has been short -/
abbrev Done (w : World) (b : Nat) (w' : World) : Prop := Rdr w' b [] [] 2 ∧ Kept [b] w w'
theorem Rdr.done {w : World} {b : Nat} {G : List Nat} {e : Int} (h : Rdr w b G [] e) : Rdr w b [] [] e := by
  obtain ⟨v, h1, A, m, c, h2, h3, h4, h5, h6, h7, h8⟩ := h.ex
  exact ⟨⟨v, h1, A, m, c, h2, h3, h4, h5, h6, fun _ _ h => absurd rfl h, h8⟩, by simp⟩
theorem RU8_done (w : World) (b : Nat) (h : Rdr w b [] [] 2) : Calls Try.prog 27 #[.pointer (some ⟨b, 0, none⟩)] w fun en w' => en = .returned (.int .i64 0) ∧ Done w b w' := by
  refine (RU8_any w b [] [] 2 h).mono fun en w' ⟨h1, h2, h3⟩ => ?_
  rw [tk_done] at h1 h2
  exact ⟨by rw [h1]; simp [num, wrap64], h2, h3⟩
theorem RU16_done (w : World) (b : Nat) (h : Rdr w b [] [] 2) : Calls Try.prog 29 #[.pointer (some ⟨b, 0, none⟩)] w fun en w' => en = .returned (.int .i64 0) ∧ Done w b w' := by
  refine (RU16_any w b [] [] 2 h).mono fun en w' ⟨h1, h2, h3⟩ => ?_
  rw [tk_done] at h1 h2
  exact ⟨by rw [h1]; simp [num, wrap64], h2, h3⟩
theorem RU32_done (w : World) (b : Nat) (h : Rdr w b [] [] 2) : Calls Try.prog 31 #[.pointer (some ⟨b, 0, none⟩)] w fun en w' => en = .returned (.int .u32 0) ∧ Done w b w' := by
  refine (RU32_any w b [] [] 2 h).mono fun en w' ⟨h1, h2, h3⟩ => ?_
  rw [tk_done] at h1 h2
  exact ⟨by rw [h1]; simp [num, wrap64], h2, h3⟩
theorem RI64_done (w : World) (b : Nat) (h : Rdr w b [] [] 2) : Calls Try.prog 33 #[.pointer (some ⟨b, 0, none⟩)] w fun en w' => en = .returned (.int .i64 0) ∧ Done w b w' := by
  refine (RI64_any w b [] [] 2 h).mono fun en w' ⟨h1, h2, h3⟩ => ?_
  rw [tk_done] at h1 h2
  exact ⟨by rw [h1]; simp [num, wrap64], h2, h3⟩
theorem RRaw_done (w : World) (b : Nat) (n : Int) (h : Rdr w b [] [] 2) : Calls Try.prog 35 #[.pointer (some ⟨b, 0, none⟩), .int .i64 n] w fun en w' => ∃ A c, en = .returned (.slice A 0 c) ∧ Done w b w' := by
  refine (RRaw_any w b [] [] 2 n h (by simp)).mono fun en w' ⟨v, h1, h2, _, h3, h4⟩ => ?_
  rw [tk_done] at h2 h3
  obtain ⟨A, c, rfl, _⟩ := h2.form
  exact ⟨A, c, h1, h3, h4⟩
theorem Left_done (w : World) (b : Nat) (h : Rdr w b [] [] 2) : Calls Try.prog 37 #[.pointer (some ⟨b, 0, none⟩)] w fun en w' => en = .returned (.int .i64 0) ∧ w = w' := Left_any w b [] [] 2 h
theorem End_done (w : World) (b : Nat) (h : Rdr w b [] [] 2) : Calls Try.prog 38 #[.pointer (some ⟨b, 0, none⟩)] w fun en w' => en = .returned (.int .i64 2) ∧ w = w' := End_any w b [] [] 2 h

set_option maxHeartbeats 1600000 in
set_option maxRecDepth 100000 in
theorem OctetStays_loop (W : World) (v0 v1 : Value) (bs : List UInt8) (l : List CallD) (hb : RdB W (old W) v0 bs) (h : ArrOf W (old W) 3 (CallDec (old W)) v1 l) :
    Calls Try.prog 6 #[v0, v1] W fun e W' => e = .returned (.bool true) ∧ Below W.heap.size W W' := by
  obtain ⟨A, m, c, rfl, h1, h2, h3, h4, h5⟩ := h
  obtain ⟨A0, m0, c0, rfl, g1, g2, g3, g4, g5, g6⟩ := hb
  have H1 := Lib.hid h1
  have H4 := Lib.hid h4
  have H5 := Lib.hid h5
  have G1 := Lib.hid g1
  have G4 := Lib.hid g4
  have G6 := Lib.hid g6
  clear h1 h4 h5 g1 g4 g5 g6
  unfold maxLen at h3
  by_cases hm0 : m0 ≤ 200
  · go_enter Try.func6, Try.ntmps6
    go_wp2_with fail
    refine (NewReader_any W A0 m0 c0 bs G4.out G1.out G6.out (by omega)).mono ?_
    rintro e w1 ⟨rb, G, rfl, hr, hk1, hrb, hG⟩
    have Hr := Lib.hid hr
    have Hk1 := Lib.hid hk1
    clear hr hk1 hG
    go_wp2_with fail
    refine (RRaw_any w1 rb G bs 0 _ Hr.out (by have := G1.out; omega)).mono ?_
    rintro e w2 ⟨v2, rfl, k1, k2, k3, k4⟩
    have ht : tk bs 0 ((m0 : Int) + 1) = ([], [], 2) := by
      have := G1.out
      unfold tk
      rw [if_neg (by omega), if_pos (by omega)]
    rw [ht] at k1 k3
    obtain ⟨A2, c2, rfl, -, -⟩ := k1.form
    have hd := k3.done
    have Hd := Lib.hid hd
    have hkw : Kept [] W w2 := Hk1.out.trans k4 (by simpa using hrb)
    have Hkw := Lib.hid hkw
    clear k1 k2 k3 k4 ht hd hkw
    go_wp2_with (first
      | (go_at_call 37; refine (Left_done _ _ Hd.out).mono ?_; rintro e w' ⟨rfl, rfl⟩)
      | (go_at_call 38; refine (End_done _ _ Hd.out).mono ?_; rintro e w' ⟨rfl, rfl⟩))
    go_loopg [34] m (fun g i wr => ∃ k : Nat, k ≤ m ∧ k ≤ 30 ∧ g = m - k ∧ i = .int .i64 k ∧ Rdr wr rb [] [] 2 ∧ Kept [] W wr)
    case atStart => exact ⟨0, by omega, by omega, by omega, rfl, Hd.out, Hkw.out⟩
    case round =>
      obtain ⟨k, hk, hk30, rfl, rfl, hl, hkr⟩ := hrel
      have Hl := Lib.hid hl
      have Hkr := Lib.hid hkr
      clear hl hkr
      by_cases hlt : k < m
      · obtain ⟨g, o, rfl, hg1, hg2, hg3⟩ := H5.out (by rintro rfl; have := H1.out; simp at this; omega)
        have hck : l[k]? = some (l[k]'(by rw [H1.out]; exact hlt)) := List.getElem?_eq_getElem _
        obtain ⟨cs, hcs, ⟨rv, rfl, hrd, hn0, hn1⟩, hcell⟩ := hg3 k _ hck
        generalize (l[k]'(by rw [H1.out]; exact hlt)) = cc at *
        have hc0 := (Hkr.out.cell (p := ⟨g, o + (k * 3 + 0), none⟩) hg2 (by simp)).trans (hcell 0 (by omega))
        have hc1 := (Hkr.out.cell (p := ⟨g, o + (k * 3 + 1), none⟩) hg2 (by simp)).trans (hcell 1 (by omega))
        have hc2 := (Hkr.out.cell (p := ⟨g, o + (k * 3 + 2), none⟩) hg2 (by simp)).trans (hcell 2 (by omega))
        simp only [List.getElem?_cons_zero, List.getElem?_cons_succ, Nat.add_zero] at hc0 hc1 hc2
        rw [← Nat.add_assoc] at hc1 hc2
        have hgw : g < wr.heap.size := Nat.lt_of_lt_of_le hg2 Hkr.out.size
        obtain ⟨rA, rm, rc, rfl, -, -, -, -⟩ := id hrd
        clear hcell hrd hg3 hck hcs
        have hst : ∀ (cs : Array Value), Rdr (wr.alloc (.cells cs 28)) rb [] [] 2 := fun cs => Hl.out.kept (S := []) ((Kept.refl _ _).alloc _) (by simp) (by simp)
        have Hst := Lib.hid hst
        clear hst
        by_cases h30 : k < 30
        · have fin : ∀ cs w3, Done (wr.alloc (.cells cs 28)) rb w3 → Rdr w3 rb [] [] 2 ∧ Kept [] W w3 := fun cs w3 h => ⟨h.1, (Hkr.out.alloc _).trans h.2 (by simpa using hrb)⟩
          have Fin := Lib.hid fin
          clear fin
          have hd5 : (cc.to == 0) = true ∨ ((cc.to == 0) = false ∧ (cc.to == 1) = true) ∨ ((cc.to == 0) = false ∧ (cc.to == 1) = false ∧ (cc.to == 2) = true) ∨ ((cc.to == 0) = false ∧ (cc.to == 1) = false ∧ (cc.to == 2) = false ∧ (cc.to == 3) = true) ∨ ((cc.to == 0) = false ∧ (cc.to == 1) = false ∧ (cc.to == 2) = false ∧ (cc.to == 3) = false) := by
            cases cc.to == 0 <;> cases cc.to == 1 <;> cases cc.to == 2 <;> cases cc.to == 3 <;> simp
          rcases hd5 with te0 | ⟨te0, te1⟩ | ⟨te0, te1, te2⟩ | ⟨te0, te1, te2, te3⟩ | ⟨te0, te1, te2, te3⟩
          all_goals
            go_wp2_with (first
              | (go_at_call 27; refine (RU8_done _ _ (Hst.out _)).mono ?_; rintro e w3 ⟨rfl, hd3⟩; have Hd3 := Lib.hid hd3; clear hd3)
              | (go_at_call 29; refine (RU16_done _ _ (Hst.out _)).mono ?_; rintro e w3 ⟨rfl, hd3⟩; have Hd3 := Lib.hid hd3; clear hd3)
              | (go_at_call 31; refine (RU32_done _ _ (Hst.out _)).mono ?_; rintro e w3 ⟨rfl, hd3⟩; have Hd3 := Lib.hid hd3; clear hd3)
              | (go_at_call 33; refine (RI64_done _ _ (Hst.out _)).mono ?_; rintro e w3 ⟨rfl, hd3⟩; have Hd3 := Lib.hid hd3; clear hd3)
              | (go_at_call 35; refine (RRaw_done _ _ _ (Hst.out _)).mono ?_; rintro e w3 ⟨A3, c3, rfl, hd3⟩; have Hd3 := Lib.hid hd3; clear hd3)
              | (go_at_call 37; refine (Left_done _ _ Hd3.out.1).mono ?_; rintro e w' ⟨rfl, rfl⟩)
              | (go_at_call 38; refine (End_done _ _ Hd3.out.1).mono ?_; rintro e w' ⟨rfl, rfl⟩))
            go_roundg (m - (k + 1))
            case measure => omega
            case rel => exact ⟨k + 1, by omega, by omega, rfl, by go_num, (Fin.out _ _ Hd3.out).1, (Fin.out _ _ Hd3.out).2⟩
        · go_wp2_with (go_at_call 25; refine (awake2_any _).mono ?_; rintro e w5 ⟨rfl, g4⟩; have G5 := Lib.hid g4; clear g4)
          go_ret
          exact ⟨rfl, ((Hkr.out.alloc _).trans G5.out (by simp)).below (Nat.le_refl _) (by simp)⟩
      · go_wp2_with (go_at_call 25; refine (awake2_any _).mono ?_; rintro e w5 ⟨rfl, g4⟩; have G5 := Lib.hid g4; clear g4)
        go_ret
        exact ⟨rfl, (Hkr.out.trans G5.out (by simp)).below (Nat.le_refl _) (by simp)⟩
  · go_enter Try.func6, Try.ntmps6
    go_wp2_with (go_at_call 25; refine (awake2_any _).mono ?_; rintro e w5 ⟨rfl, g4⟩; have G5 := Lib.hid g4; clear g4)
    go_ret
    exact ⟨rfl, G5.out.below (Nat.le_refl _) (by simp)⟩

theorem OctetStays_walk {H : Type} {enc : TypeId × Value → H} {S : Prop} (W : World) (base : Nat) (v0 : Value) (d0 : DataW H) (p0 : List MemPlace) (v1 : Value) (d1 : DataW H) (p1 : List MemPlace)
    (hv0 : Value.okWide Try.prog W .any base 24 v0) (hv1 : Value.okWide Try.prog W .any base 22 v1)
    (h0 : DataW.Trod enc Try.prog W 0 (fun _ => true) true 24 v0 d0 p0) (h1 : DataW.Trod enc Try.prog W 0 (fun _ => true) true 22 v1 d1 p1) (_ : S) :
    Calls Try.prog 6 #[v0, v1] W fun e W' => e = .returned (.bool true) ∧ Below W.heap.size W W' := by
  obtain ⟨l, hl, hs⟩ := open_calls hv1 h1
  obtain ⟨a0, len, cap, rfl⟩ := okWide_slice Try.underlying24 hv0
  obtain ⟨fuel, hf⟩ := h0
  obtain ⟨v, bs, e, hb, _⟩ := open_bytes Try.underlying24 hf
  have e : v = .slice a0 len cap := by simpa [Value.cells] using e.symm
  subst e
  exact OctetStays_loop W _ _ bs l hb hl
end Go.Proofs.Yticjcmjodnedjaa
