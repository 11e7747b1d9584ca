
/-
  The document's answer on flows, got; on drains: until, cleared.
-/
import Derived.Test.YtdabbkkjmmbigaaGreatSvE
namespace Go.Proofs.YtdabbkkjmmbigaaGreat
open Go.RowKit Go.ChangeShapes Go.WideShapes Go.ChangeAt Go.Deep Go.MapKept
set_option linter.unusedVariables false

/-- what a get owes -/
def FlGetPost (w : World) (l : List FlD) (t : TupD) (e : Ending) (w' : World) : Prop :=
  Kept [] w w' ∧ (((∀ x ∈ l, x.tup ≠ t) ∧ e = .returned (.tuple #[evF zFl, .bool false])) ∨ ∃ (i : Nat) (h : i < l.length), l[i].tup = t ∧ e = .returned (.tuple #[evF l[i], .bool true]))
theorem wpList_lvs {α : Type} {n bytes : Nat} {e t : TypeId} {Dec : World → List Nat → List Value → α → Prop} (D : DecOk n Dec) (E : Elem Tryz.prog t e n bytes) (hD : ∀ {w w' : World} {G G' : List Nat} {cs : List Value} {a : α}, Dec w G cs a → Dec w' G' cs a) (hby : bytes ≤ 1000)
    {ops : Array Oper} {rest : List Oper} {o : Oper} {a : Act} {Q : Exit → Act → World → Prop} {w0 : World} (hgd : o.guard = none) (s x : Operand)
    (ho : o.op = .call { callee := .builtin .append, args := #[s, x], argTypes := #[t, t] }) {W : World} {sl : Value} {l l2 : List α} {G : List Nat} {A : Option Addr} {m c : Nat}
    (hs : a.eval s = sl) (hN : LV Dec e n W w0 sl l) (hx : a.eval x = .slice A m c) (hb : ArrOf w0 G n (fun w => Dec w G) (.slice A m c) l2) (hl : l.length + l2.length ≤ 100000)
    (h : ∀ A' m' c' w', LV Dec e n W w' (.slice A' m' c') (l ++ l2) → Kept (rowOf sl) w0 w' → (∀ k ∈ rowOf sl, W.heap.size ≤ k ∧ k < w0.heap.size) → wpList Tryz.prog ops Q rest (a.put o.dst (.slice A' m' c')) w') : wpList Tryz.prog ops Q (o :: rest) a w0 := by
  obtain ⟨css, G1, h1⟩ := hN
  obtain ⟨A0, m0, c0, cs2, e0, l0, _, _, _, hd2, hlen2, hr2⟩ := ArrOf.decs hb
  injection e0 with e1 e2 e3
  subst e1 e2 e3
  have hD2 : Decs Dec w0 [] cs2 l2 := ⟨hd2.1, fun i cs b h1 h2 => hD (hd2.2 i cs b h1 h2)⟩
  have hfl : cs2.flatten.length = m * n := by rw [flat_len hlen2, hd2.1, l0]
  have hmul : (l.length + m) * bytes ≤ 100000 * 1000 := Nat.mul_le_mul (by omega) hby
  refine wpList_app _ hgd s x t ho E hs h1.own hx hr2 hfl (hD2.ones D) (by unfold maxLen; omega) (by omega) (fun v' w' ho' hk hr' => ?_)
  have hx := LVx.app D h1 (Kept.refl [] w0) hD2 (by simp) ho' (by rw [List.length_append, l0]) (by simp) hk hr'
  obtain ⟨A', m', c', rfl⟩ := Own.form' ho'
  exact h A' m' c' w' ⟨_, _, hx⟩ hk (fun k hk => ⟨h1.new k hk, h1.own.lt k hk⟩)
theorem getM_hit {l : List (Int × Int)} {b : Int} {j : Nat} (hj : j < l.length) (h1 : ∀ x ∈ l.take j, x.1 ≠ b) (h2 : l[j].1 = b) : getM l b = some l[j].2 := by
  conv => lhs; rw [← List.take_append_drop j l]
  rw [getM_append, getM_none.2 h1, ← List.getElem_cons_drop (h := hj), getM_cons, if_pos h2]
  rfl
/-- drains in memory, as the document's answer has them -/
structure Drs (w : World) (q : Nat) (G : List Nat) (A : Option Addr) (m c : Nat) (l : List (Int × Int)) : Prop where
  blk : Blk w q 90 #[.slice A m c]
  arr : DrArr w G (.slice A m c) l
  lt : ∀ k ∈ G, k < w.heap.size
  nq : q ∉ G
set_option maxHeartbeats 1600000 in
theorem Until_any (w : World) {q : Nat} {G : List Nat} {A : Option Addr} {m c : Nat} {l : List (Int × Int)} (h : Drs w q G A m c l) (b : Int) :
    Calls Tryz.prog 39 #[.pointer (some ⟨q, 0, none⟩), .int .i64 b] w fun e w' => e = .returned (.tuple #[.int .i64 ((getM l b).getD 0), .bool (getM l b).isSome]) ∧ Kept [] w w' := by
  have hl := h.arr.len
  unfold maxLen at hl
  obtain ⟨hl1, hl2, hl3, hl4⟩ := hl
  have H := Lib.hid h
  have A1 := Lib.hid hl1
  have hq0 := h.blk.cell
  have hqlt := h.blk.lt
  clear h hl1 hl4
  go_enter Tryz.func39, Tryz.ntmps39
  go_wp2
  go_loopg [13] m (fun gg i wr => ∃ j : Nat, j ≤ m ∧ gg = m - j ∧ i = .int .i64 j ∧ (∀ x ∈ l.take j, x.1 ≠ b) ∧ Kept [] w wr)
  case atStart => exact ⟨0, by omega, by omega, rfl, by simp, Kept.refl _ _⟩
  case round =>
    obtain ⟨j, hj, rfl, rfl, hs, hkw⟩ := hrel
    have Hs := Lib.hid hs
    have Hkw := Lib.hid hkw
    clear hs hkw
    by_cases hlt : j < m
    · have hkl : j < l.length := by rw [A1.out]; exact hlt
      obtain ⟨g, o, rfl, hg, hgG, c0, c1⟩ := (DrArr.kept H.out.arr Hkw.out (by simp)).at (k := j) hkl
      have Htk := Lib.hid (show l.take (j + 1) = l.take j ++ [l[j]] by rw [List.take_add_one, List.getElem?_eq_getElem hkl]; rfl)
      have Hhit := Lib.hid (fun h2 => getM_hit hkl Hs.out h2)
      generalize l[j]'hkl = d at *
      have i0 : (0 : Int) ≤ (j : Int) := by omega
      have i1 : (j : Int) < (m : Int) := by omega
      have iw : IntKind.i64.wrap ((j : Int) + 1) = (j : Int) + 1 := IntWalk.i64_in _ (by omega)
      by_cases hd : d.1 = b
      · have HG := Lib.hid (Hhit.out hd)
        have hd' : (d.1 == b) = true := by simp [hd]
        clear hd
        go_wp2_with (((with_reducible show wpList _ _ _ ({ dst := none, op := Op.store 58 (.tmp 7) (.tmp 16), type := _, pos := _, after := _, guard := _ } :: _) _ _); refine wpList_put (t := 58) rfl 58 (.tmp 7) (.tmp 16) rfl _ (by rfl) (by rfl) (by (repeat (first | (apply Blk.new'; simp; done) | apply Blk.alloc | apply Blk.drew))) (by rfl) (by kernel_rfl) (by simp [Value.oneCell']) ?_; intro w5 hb5 hk5; have Hb5 := Lib.hid hb5; have Hk5 := Lib.hid hk5; clear hb5 hk5)
                     have K5 := Lib.hid (Hkw.out.trans (((Kept.refl [] wr).alloc _).trans Hk5.out (fun i hi => .inr (by simp at hi; omega))) (by simp))
                     have hx5 := Hb5.out.cell)
        go_ret2
        exact ⟨by rw [HG.out]; rfl, K5.out⟩
      · have HD := Lib.hid hd
        have hd' : (d.1 == b) = false := by simp [hd]
        clear hd
        go_wp2_with (((with_reducible show wpList _ _ _ ({ dst := none, op := Op.store 58 (.tmp 7) (.tmp 16), type := _, pos := _, after := _, guard := _ } :: _) _ _); refine wpList_put (t := 58) rfl 58 (.tmp 7) (.tmp 16) rfl _ (by rfl) (by rfl) (by (repeat (first | (apply Blk.new'; simp; done) | apply Blk.alloc | apply Blk.drew))) (by rfl) (by kernel_rfl) (by simp [Value.oneCell']) ?_; intro w5 hb5 hk5; have Hb5 := Lib.hid hb5; have Hk5 := Lib.hid hk5; clear hb5 hk5)
                     have K5 := Lib.hid (Hkw.out.trans (((Kept.refl [] wr).alloc _).trans Hk5.out (fun i hi => .inr (by simp at hi; omega))) (by simp))
                     have hx5 := Hb5.out.cell)
        go_roundg (m - (j + 1))
        case measure => omega
        case rel =>
          refine ⟨j + 1, by omega, rfl, by go_num, fun x hx => ?_, K5.out⟩
          rw [Htk.out, List.mem_append] at hx
          rcases hx with hx | hx
          · exact Hs.out x hx
          · rw [List.mem_singleton] at hx
            rw [hx]
            exact HD.out
    · obtain rfl : m = j := by omega
      have i1 : ¬ (m : Int) < (m : Int) := by omega
      have hres := Lib.hid (show getM l b = none from getM_none.2 (by
        have := Hs.out
        rwa [List.take_of_length_le (by rw [A1.out]; exact Nat.le_refl _)] at this))
      go_wp2
      go_ret2
      exact ⟨by rw [hres.out]; rfl, Hkw.out⟩
/-- what a clear owes -/
def DrClearPost (w : World) (q : Nat) (l : List (Int × Int)) (b : Int) (e : Ending) (w' : World) : Prop :=
  (∃ t : Bool, e = .returned (.bool t)) ∧ Kept [q] w w' ∧ ∃ A' m' c', Blk w' q 90 #[.slice A' m' c'] ∧ ∃ G', DrArr w' G' (.slice A' m' c') (delM l b) ∧ ∀ k ∈ G', w.heap.size ≤ k ∧ k < w'.heap.size
theorem delM_snoc (l : List (Int × Int)) (d : Int × Int) (b : Int) : delM (l ++ [d]) b = delM l b ++ (if d.1 = b then [] else [d]) := by
  unfold delM
  rw [List.filter_append]
  by_cases h : d.1 = b <;> simp [h]
set_option maxHeartbeats 1600000 in
theorem Clear_any (w : World) {q : Nat} {G : List Nat} {A : Option Addr} {m c : Nat} {l : List (Int × Int)} (h : Drs w q G A m c l) (b : Int) (hm : m ≤ 1000) :
    Calls Tryz.prog 41 #[.pointer (some ⟨q, 0, none⟩), .int .i64 b] w fun e w' => DrClearPost w q l b e w' := by
  have hl := h.arr.len
  unfold maxLen at hl
  obtain ⟨hl1, hl2, hl3, hl4⟩ := hl
  have H := Lib.hid h
  have A1 := Lib.hid hl1
  have hq0 := h.blk.cell
  have hqlt := h.blk.lt
  clear h hl1 hl4
  go_enter Tryz.func41, Tryz.ntmps41
  go_wp2
  go_loopg [5, 14] m (fun gg s i wr => ∃ (j : Nat) (A : Option Addr) (m1 c1 : Nat), j ≤ m ∧ gg = m - j ∧ s = .slice A m1 c1 ∧ i = .int .i64 j ∧ DrV w wr (.slice A m1 c1) (delM (l.take j) b))
  case atStart => exact ⟨0, _, _, _, by omega, by omega, rfl, rfl, LV.nil (Kept.refl _ _)⟩
  case round =>
    obtain ⟨j, As, ms, cs, hj, rfl, rfl, rfl, hv⟩ := hrel
    have Hv := Lib.hid hv
    have Hkw := Lib.hid (LV.kept hv)
    have hsz := Hkw.out.size
    clear hv
    by_cases hlt : j < m
    · have hkl : j < l.length := by rw [A1.out]; exact hlt
      obtain ⟨g, o, rfl, hg, hgG, c0, c1⟩ := (DrArr.kept H.out.arr Hkw.out (by simp)).at (k := j) hkl
      have Htk := Lib.hid (show delM (l.take (j + 1)) b = delM (l.take j) b ++ (if l[j].1 = b then [] else [l[j]]) by rw [List.take_add_one, List.getElem?_eq_getElem hkl]; exact delM_snoc _ _ _)
      have hll : (delM (l.take j) b).length + [l[j]].length ≤ 100000 := by
        have h1 := del_len_le (l.take j) b
        rw [List.length_take] at h1
        simp
        omega
      have HLL := Lib.hid hll
      clear hll
      generalize l[j]'hkl = d at *
      have i0 : (0 : Int) ≤ (j : Int) := by omega
      have i1 : (j : Int) < (m : Int) := by omega
      have iw : IntKind.i64.wrap ((j : Int) + 1) = (j : Int) + 1 := IntWalk.i64_in _ (by omega)
      by_cases hd : d.1 = b
      · have HD := Lib.hid hd
        have hd' : (d.1 == b) = true := by simp [hd]
        have hd2 : (d.1 != b) = false := by simp [hd]
        clear hd
        go_wp2_with (((with_reducible show wpList _ _ _ ({ dst := none, op := Op.store 58 (.tmp 7) (.tmp 17), type := _, pos := _, after := _, guard := _ } :: _) _ _); refine wpList_put (t := 58) rfl 58 (.tmp 7) (.tmp 17) rfl _ (by rfl) (by rfl) (by (repeat (first | (apply Blk.new'; simp; done) | apply Blk.alloc | apply Blk.drew))) (by rfl) (by kernel_rfl) (by simp [Value.oneCell']) ?_; intro w5 hb5 hk5; have Hb5 := Lib.hid hb5; have Hk5 := Lib.hid hk5; clear hb5 hk5)
                     have K5 := Lib.hid (((Kept.refl [] wr).alloc _).trans Hk5.out (fun i hi => .inr (by simp at hi; omega)))
                     have hx5 := Hb5.out.cell)
        go_roundg (m - (j + 1))
        case measure => omega
        case rel => exact ⟨j + 1, _, _, _, by omega, rfl, rfl, by go_num, by rw [Htk.out, if_pos HD.out, List.append_nil]; exact LV.go DrOk Hv.out K5.out⟩
      · have HD := Lib.hid hd
        have hd' : (d.1 == b) = false := by simp [hd]
        have hd2 : (d.1 != b) = true := by simp [hd]
        clear hd
        go_wp2_with (first
          | (((with_reducible show wpList _ _ _ ({ dst := none, op := Op.store 58 (.tmp 7) (.tmp 17), type := _, pos := _, after := _, guard := _ } :: _) _ _); refine wpList_put (t := 58) rfl 58 (.tmp 7) (.tmp 17) rfl _ (by rfl) (by rfl) (by (repeat (first | (apply Blk.new'; simp; done) | apply Blk.alloc | apply Blk.drew))) (by rfl) (by kernel_rfl) (by simp [Value.oneCell']) ?_; intro w5 hb5 hk5; have Hb5 := Lib.hid hb5; have Hk5 := Lib.hid hk5; clear hb5 hk5)
             have K5 := Lib.hid (((Kept.refl [] wr).alloc _).trans Hk5.out (fun i hi => .inr (by simp at hi; omega)))
             have hx5 := Hb5.out.cell)
          | (at_builtin
             have hN7 := LV.go DrOk Hv.out (K5.out.alloc (.cells #[.int .i64 d.1, .int .i64 d.2] 58))
             apply wpList_lvs (l2 := [d]) DrOk elem_drain (fun h => h) (by omega) rfl (.tmp 22) (.tmp 24) rfl
             case hs => exact rfl
             case hN => exact hN7
             case hx => exact rfl
             case hb => exact arr_blk (Blk.new _ _ _) rfl rfl
             case hl => exact HLL.out
             intro A7 m7 c7 w7 h7 k7 r7
             have V7 := Lib.hid h7
             clear h7 k7 r7 hN7))
        go_roundg (m - (j + 1))
        case measure => omega
        case rel => exact ⟨j + 1, _, _, _, by omega, rfl, rfl, by go_num, by rw [Htk.out, if_neg HD.out]; exact V7.out⟩
    · obtain rfl : m = j := by omega
      have i1 : ¬ (m : Int) < (m : Int) := by omega
      have B1 := Lib.hid (H.out.blk.kept Hkw.out (by simp))
      have hq1 := B1.out.cell
      have hf1 := B1.out.frozen
      have hl1 := B1.out.lt
      have HV := Lib.hid (show DrV w wr (.slice As ms cs) (delM l b) by
        have := Hv.out
        rwa [List.take_of_length_le (by rw [A1.out]; exact Nat.le_refl _)] at this)
      go_wp2
      go_ret
      obtain ⟨b1, b2⟩ := lv_row DrOk (fun h => h) HV.out
      have hks := (Kept.refl [q] wr).setCell (p := ⟨q, 0, none⟩) (.inl (by simp)) (.slice As ms cs)
      refine ⟨⟨_, rfl⟩, (Hkw.out.mono (T := [q]) (by simp)).trans hks (by simp), As, ms, cs, ?_, _, DrArr.kept b1 hks (fun k hk hm => by have := (b2 k hk).1; simp at hm; omega), fun k hk => ⟨(b2 k hk).1, Nat.lt_of_lt_of_le (b2 k hk).2 hks.size⟩⟩
      have := B1.out.set 0 (.slice As ms cs)
      simpa using this
end Go.Proofs.YtdabbkkjmmbigaaGreat
