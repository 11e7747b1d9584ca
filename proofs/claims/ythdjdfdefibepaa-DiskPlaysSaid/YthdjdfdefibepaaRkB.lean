
/-
  The document's disk: names taken out, put in; a change done.
-/
import Derived.Test.YthdjdfdefibepaaRkA
namespace Go.Proofs.Ythdjdfdefibepaa
open Go.RowKit Go.ChangeShapes Go.WideShapes Go.ChangeAt Go.Deep Go.MapKept
set_option linter.unusedVariables false

theorem delN_snoc (l : List (Bs × Nat)) (d : Bs × Nat) (b : Bs) : delM (l ++ [d]) b = delM l b ++ (if d.1 = b then [] else [d]) := by
  unfold delM
  rw [List.filter_append]
  by_cases h : d.1 = b <;> simp [h]
theorem delN_len (l : List (Bs × Nat)) (b : Bs) : (delM l b).length ≤ l.length := List.length_filter_le _ _
set_option maxHeartbeats 1600000 in
theorem rwithout_any (w : World) {G : List Nat} {A : Option Addr} {m c : Nat} {l : List (Bs × Nat)} (h : NmArr w G (.slice A m c) l) (x : Bs) (hm : m ≤ 1000) :
    Calls Try.prog 72 #[.slice A m c, .string (strOf x)] w fun e w' => ∃ A' m' c', e = .returned (.slice A' m' c') ∧ NmV w w' (.slice A' m' c') (delM l x) := by
  obtain ⟨a1, a2, a3, a4⟩ := arr_lens h
  unfold maxLen at a3
  have H := Lib.hid h
  have A1 := Lib.hid a1
  clear h a1 a4
  go_enter Try.func72, Try.ntmps72
  go_wp2
  go_loopg [5, 10] m (fun gg s i wr => ∃ (j : Nat) (A : Option Addr) (m1 c1 : Nat), j ≤ m ∧ gg = m - j ∧ s = .slice A m1 c1 ∧ i = .int .i64 (j : Nat) ∧ NmV w wr (.slice A m1 c1) (delM (l.take j) x))
  case atStart => exact ⟨0, _, _, _, by omega, by omega, rfl, rfl, LV.nil (Kept.refl _ _)⟩
  case round =>
    obtain ⟨j, As, ms, cs, hj, rfl, rfl, rfl, hv⟩ := hrel
    have Hv := Lib.hid hv
    have KW := Lib.hid (LV.kept hv)
    clear hv
    by_cases hlt : j < m
    · obtain ⟨q, hq⟩ : ∃ q, l[j]? = some q := ⟨_, List.getElem?_eq_getElem (by rw [A1.out]; exact hlt)⟩
      obtain ⟨g, o, rfl, hg, hgG, d0, d1⟩ := (NmArr.kept H.out KW.out (by simp)).at hq
      have i0 : (0 : Int) ≤ (j : Int) := by omega
      have i1 : (j : Int) < (m : Int) := by omega
      have iw : IntKind.i64.wrap ((j : Int) + 1) = (j : Int) + 1 := IntWalk.i64_in _ (by omega)
      have Htk := Lib.hid (show delM (l.take (j + 1)) x = delM (l.take j) x ++ (if q.1 = x then [] else [q]) by rw [List.take_add_one, hq]; exact delN_snoc _ _ _)
      have HLL := Lib.hid (show (delM (l.take j) x).length + [q].length ≤ 100000 by
        have h1 := delN_len (l.take j) x
        rw [List.length_take] at h1
        simp
        omega)
      have tx := strOf_toList q.1
      have ty := strOf_toList x
      clear hq
      by_cases he : q.1 = x
      · have HD := Lib.hid he
        have hb : (q.1 == x) = true := by simpa using he
        have hb2 : (q.1 != x) = false := by simpa using he
        clear he
        go_wp2_with (first
          | (((with_reducible show wpList _ _ _ ({ dst := none, op := Op.store 89 (.tmp 7) (.tmp 13), type := _, pos := _, after := _, guard := _ } :: _) _ _); refine wpList_put (t := 89) rfl 89 (.tmp 7) (.tmp 13) rfl _ (by rfl) (by rfl) (by (repeat (first | (apply Blk.new'; simp; done) | apply Blk.alloc | apply Blk.drew))) (by rfl) (by kernel_rfl) (by simp [Value.oneCell']) ?_; intro w5 hb5 hk5; have Hb5 := Lib.hid hb5; have Hk5 := Lib.hid hk5; clear hb5 hk5)
             have K5 := Lib.hid (((Kept.refl [] wr).alloc _).trans Hk5.out (fun i hi => .inr (by simp at hi; omega)) : Kept [] wr w5)
             have hx5 := Hb5.out.cell))
        go_roundg (m - (j + 1))
        case measure => omega
        case rel => exact ⟨j + 1, _, _, _, by omega, rfl, rfl, by go_num, by rw [Htk.out, if_pos HD.out, List.append_nil]; exact LV.go NmOk Hv.out K5.out⟩
      · have HD := Lib.hid he
        have hb : (q.1 == x) = false := by simpa using he
        have hb2 : (q.1 != x) = true := by simpa using he
        clear he
        go_wp2_with (first
          | (((with_reducible show wpList _ _ _ ({ dst := none, op := Op.store 89 (.tmp 7) (.tmp 13), type := _, pos := _, after := _, guard := _ } :: _) _ _); refine wpList_put (t := 89) rfl 89 (.tmp 7) (.tmp 13) rfl _ (by rfl) (by rfl) (by (repeat (first | (apply Blk.new'; simp; done) | apply Blk.alloc | apply Blk.drew))) (by rfl) (by kernel_rfl) (by simp [Value.oneCell']) ?_; intro w5 hb5 hk5; have Hb5 := Lib.hid hb5; have Hk5 := Lib.hid hk5; clear hb5 hk5)
             have K5 := Lib.hid (((Kept.refl [] wr).alloc _).trans Hk5.out (fun i hi => .inr (by simp at hi; omega)) : Kept [] wr w5)
             have hx5 := Hb5.out.cell)
          | (at_builtin
             have hN7 := LV.go NmOk Hv.out (K5.out.alloc (.cells #[.string (strOf q.1), .int .i64 (q.2 : Nat)] 89))
             apply wpList_lvs (l2 := [q]) NmOk elem_nm (fun h => h) (by omega) rfl (.tmp 18) (.tmp 20) rfl
             case hs => exact rfl
             case hN => exact hN7
             case hx => exact rfl
             case hb => exact arr_blk (Blk.new _ _ _) rfl rfl
             case hl => exact HLL.out
             intro A7 m7 c7 w7 h7 k7 r7
             have V7 := Lib.hid h7
             clear h7 k7 r7 hN7))
        go_roundg (m - (j + 1))
        case measure => omega
        case rel => exact ⟨j + 1, _, _, _, by omega, rfl, rfl, by go_num, by rw [Htk.out, if_neg HD.out]; exact V7.out⟩
    · obtain rfl : m = j := by omega
      have i1 : ¬ (m : Int) < (m : Int) := by omega
      go_wp2
      go_ret
      exact ⟨_, _, _, rfl, by
        have h1 := Hv.out
        rwa [List.take_of_length_le (by rw [A1.out]; exact Nat.le_refl _)] at h1⟩
theorem lv_form {α : Type} {n : Nat} {e : TypeId} {Dec : World → List Nat → List Value → α → Prop} {W w : World} {v : Value} {l : List α} (h : LV Dec e n W w v l) : (v = .slice none 0 0 ∧ l = []) ∨ ∃ g c, v = .slice (some ⟨g, 0, none⟩) l.length c ∧ l.length ≤ c ∧ c ≤ maxLen ∧ g < w.heap.size ∧ W.heap.size ≤ g := by
  obtain ⟨css, G, h1, h2, h3, h4, h5⟩ := h
  rcases h1.2 with ⟨h0, h00⟩ | ⟨g, cap', cur, hv, hq1, hg, hq2⟩
  · refine .inl ⟨h0, ?_⟩
    obtain ⟨A, c, hv, _⟩ := h1.form
    rw [h0] at hv
    injection hv with e1 e2 e3
    exact List.eq_nil_of_length_eq_zero e2.symm
  · obtain ⟨A, c, hv', hq3, hq4⟩ := h1.form
    rw [hv] at hv'
    injection hv' with e1 e2 e3
    subst e3
    refine .inr ⟨g, cap', hv, ?_, ?_, (Array.getElem?_eq_some_iff.1 hg).1, h2 g (by rw [hv]; simp [rowOf, Value.ownBlock])⟩
    · omega
    · omega
/-- how far a name's place is -/
theorem wi_at {l : List (Bs × Nat)} {x : Bs} {f j : Nat} (h1 : ∀ q ∈ (delM l x).take j, q.1 < x) (h2 : ∀ q, (delM l x)[j]? = some q → ¬ q.1 < x) (hj : j ≤ (delM l x).length) : wiM l x f = (delM l x).take j ++ ([(x, f)] ++ (delM l x).drop j) := by
  unfold wiM
  generalize delM l x = k at *
  rcases Nat.lt_or_ge j k.length with hlt | hge
  · have e1 := h2 _ (List.getElem?_eq_getElem hlt)
    rw [tw_hit hlt (fun q hq => decide_eq_true (h1 q hq)) (decide_eq_false e1), dw_hit hlt (fun q hq => decide_eq_true (h1 q hq)) (decide_eq_false e1)]
  · have : j = k.length := by omega
    subst this
    rw [List.take_length] at h1
    rw [tw_all (fun q hq => decide_eq_true (h1 q hq)), dw_all (fun q hq => decide_eq_true (h1 q hq)), List.take_length, List.drop_length]
end Go.Proofs.Ythdjdfdefibepaa
