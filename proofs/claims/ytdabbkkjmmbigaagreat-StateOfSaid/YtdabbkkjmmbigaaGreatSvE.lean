
/-
  The document's answer on flows: dropped, got.
-/
import Derived.Test.YtdabbkkjmmbigaaGreatSvD
namespace Go.Proofs.YtdabbkkjmmbigaaGreat
open Go.RowKit Go.ChangeShapes Go.WideShapes Go.ChangeAt Go.Deep Go.MapKept
set_option linter.unusedVariables false

theorem at_cases (l : List FlD) (t : TupD) : (atI l t = -1 ∧ ∀ x ∈ l, x.tup ≠ t) ∨ ∃ (i : Nat) (h : i < l.length), atI l t = (i : Nat) ∧ l[i].tup = t ∧ ∀ x ∈ l.take i, x.tup ≠ t := by
  induction l with
  | nil => exact .inl ⟨rfl, by simp⟩
  | cons a l ih =>
    by_cases h : a.tup = t
    · refine .inr ⟨0, by simp, ?_, h, by simp⟩
      exact at_hit (j := 0) (by simp) (by simp) h
    · rcases ih with ⟨_, h2⟩ | ⟨i, hi, _, h2, h3⟩
      · have hall : ∀ x ∈ a :: l, x.tup ≠ t := by
          intro x hx
          rcases List.mem_cons.1 hx with rfl | hx
          · exact h
          · exact h2 x hx
        exact .inl ⟨at_none hall, hall⟩
      · have htk : ∀ x ∈ (a :: l).take (i + 1), x.tup ≠ t := by
          intro x hx
          rw [List.take_succ_cons] at hx
          rcases List.mem_cons.1 hx with rfl | hx
          · exact h
          · exact h3 x hx
        exact .inr ⟨i + 1, by simpa using hi, at_hit (l := a :: l) (j := i + 1) (by simpa using hi) htk (by simpa using h2), by simpa using h2, htk⟩
/-- what a drop owes -/
def FlDropPost (w : World) (q : Nat) (x y : Int) (l : List FlD) (t : TupD) (e : Ending) (w' : World) : Prop :=
  (atI l t = -1 ∧ e = .returned (.bool false) ∧ Kept [] w w') ∨
  (∃ i : Nat, i < l.length ∧ atI l t = (i : Nat) ∧ e = .returned (.bool true) ∧ Kept [q] w w' ∧ ∃ A' m' c', Blk w' q 81 #[.slice A' m' c', .int .i64 x, .int .i64 y] ∧ ∃ G', FlArr w' G' (.slice A' m' c') (l.take i ++ l.drop (i + 1)) ∧ ∀ k ∈ G', w.heap.size ≤ k ∧ k < w'.heap.size)
set_option maxRecDepth 100000 in
set_option maxHeartbeats 3200000 in
theorem FlDrop_any (w : World) {q : Nat} {G : List Nat} {A : Option Addr} {m c : Nat} {x y : Int} {l : List FlD} (h : Fls w w q G A m c x y l) (t : TupD) (hm : m ≤ 1000) :
    Calls Tryz.prog 37 #[.pointer (some ⟨q, 0, none⟩), .agg #[.int .u32 (t.src.toNat : Nat), .int .u32 (t.dst.toNat : Nat), .int .i64 t.proto, .int .i64 t.sport, .int .i64 t.dport]] w fun e w' => FlDropPost w q x y l t e w' := by
  have H := Lib.hid h
  have hl := h.arr.len
  unfold maxLen at hl
  obtain ⟨hl1, hl2, hl3, hl4⟩ := hl
  have X0 := Lib.hid (Blk.new w 40 #[.int .u32 (t.src.toNat : Nat), .int .u32 (t.dst.toNat : Nat), .int .i64 t.proto, .int .i64 t.sport, .int .i64 t.dport])
  have K0 := Lib.hid ((Kept.refl [] w).alloc (.cells #[.int .u32 (t.src.toNat : Nat), .int .u32 (t.dst.toNat : Nat), .int .i64 t.proto, .int .i64 t.sport, .int .i64 t.dport] 40))
  have hqlt := h.blk.lt
  have AT := Lib.hid (fun w' (hk : Kept [] w w') => at_any w' l t (h.blk.kept hk (by simp)) (FlArr.kept h.arr hk (by simp)))
  have HLN := Lib.hid hl1
  clear h
  rcases at_cases l t with ⟨hat, _⟩ | ⟨i, hi, hat, ht1, ht2⟩
  · have HA := Lib.hid hat
    clear hat hl1 hl4
    go_enter Tryz.func37, Tryz.ntmps37
    go_wp2_with (go_at_call 64
                 refine (AT.out _ K0.out).mono ?_
                 rintro e w1 ⟨rfl, hk1⟩
                 rw [HA.out]
                 have K1 := Lib.hid (K0.out.trans hk1 (by simp))
                 clear hk1)
    go_ret
    exact .inl ⟨HA.out, rfl, K1.out⟩
  · have HA := Lib.hid hat
    have him : i < m := by rw [← hl1]; exact hi
    have HI := Lib.hid hi
    have i0 : ¬ ((i : Int) < 0) := by omega
    have i0' : (0 : Int) ≤ (i : Int) := by omega
    have i1 : (i : Int) ≤ (m : Int) := by omega
    have i2 : (i : Int) ≤ (c : Int) := by omega
    have iw : IntKind.i64.wrap ((i : Int) + 1) = ((i + 1 : Nat) : Int) := (IntWalk.i64_in _ (by omega)).trans (by omega)
    have i5 : (0 : Int) ≤ (i : Int) + 1 := by omega
    have i6 : (i : Int) ≤ (i : Int) + 1 := by omega
    have i7 : (i : Int) + 1 ≤ (m : Int) := by omega
    have i8 : (i : Int) + 1 ≤ (c : Int) := by omega
    have i9 : 0 ≤ (i : Int) + 1 ∧ (i : Int) + 1 ≤ (m : Int) := ⟨i5, i7⟩
    obtain ⟨g, o, rfl, hgs⟩ : ∃ g o, A = some ⟨g, o, none⟩ ∧ g < w.heap.size := by
      obtain ⟨g, o, e, hg, _⟩ := H.out.arr.at (k := i) hi
      exact ⟨g, o, e, hg⟩
    clear ht1 ht2
    clear hat hl1 hl4 hi
    by_cases hc : c = i + 1
    · subst hc
      have hmi : m = i + 1 := by omega
      go_enter Tryz.func37, Tryz.ntmps37
      go_wp2_with (go_at_call 64
                   refine (AT.out _ K0.out).mono ?_
                   rintro e w1 ⟨rfl, hk1⟩
                   rw [HA.out]
                   have K1 := Lib.hid (K0.out.trans hk1 (by simp))
                   have B1 := Lib.hid (H.out.blk.kept K1.out (by simp))
                   have hq1 := B1.out.cell
                   have hf1 := B1.out.frozen
                   have hl1 : q < w1.heap.size := B1.out.lt
                   clear hk1)
      have KD := Lib.hid (K1.out.drew)
      have N1 := Lib.hid (LV.nil KD.out : FlV w w1.drew (.slice none 0 0) [])
      have T1 := Lib.hid (arr_take (k := i) (FlArr.kept H.out.arr KD.out (by simp)) (by omega))
      have R1 := Lib.hid (by rw [List.drop_of_length_le (by have := HLN.out; omega)]; exact arr_zero w1.drew G 8 _ ⟨g, o, none⟩ 0 (by unfold maxLen; omega) : FlArr w1.drew G (.slice (some ⟨g, o, none⟩) 0 0) (l.drop (i + 1)))
      have HL1 := Lib.hid (show ([] : List FlD).length + (l.take i).length ≤ 100000 by have := HLN.out; simp; omega)
      have HL2 := Lib.hid (show ([] ++ l.take i : List FlD).length + (l.drop (i + 1)).length ≤ 100000 by have := HLN.out; simp; omega)
      go_region_law ((first
        | (refine step_lvs (W := w) (w0 := w1.drew) (sl := .slice none 0 0) (l := []) (l2 := l.take i) FlOk elem_flow (fun h => h) (by omega) rfl (.const (.slice none 0 0)) (.tmp 17) rfl (by first | (simp [Act.eval]; done) | (simp [Act.eval]; rfl) | rfl) N1.out (by first | (simp [Act.eval]; done) | (simp [Act.eval]; rfl) | rfl) T1.out HL1.out ?_
           intro A9 m9 c9 w9 h9 k9 r9
           go_must (have K9 := Lib.hid (Kept.trans (S := []) ((Kept.refl [] w1).drew) (show Kept [] w1.drew w9 from k9) (by simp)))
           go_must (have B9 := Lib.hid (B1.out.kept K9.out (by simp)))
           go_must (have hq9 := B9.out.cell)
           go_must (have hf9 := B9.out.frozen)
           go_must (have hl9 : q < w9.heap.size := B9.out.lt)
           go_must (have R9 := Lib.hid (FlArr.kept R1.out (show Kept [] w1.drew w9 from k9) (by simp)))
           have H9 := Lib.hid h9
           clear h9 k9 r9)
        | (refine step_lvs (W := w) (w0 := w9) (sl := .slice A9 m9 c9) (l := [] ++ l.take i) (l2 := l.drop (i + 1)) FlOk elem_flow (fun h => h) (by omega) rfl (.tmp 18) (.tmp 25) rfl (by first | (simp [Act.eval]; done) | (simp [Act.eval]; rfl) | rfl) H9.out (by first | (simp [Act.eval]; done) | (simp [Act.eval]; rfl) | rfl) R9.out HL2.out ?_
           intro A10 m10 c10 w10 h10 k10 r10
           go_must (have B10 := Lib.hid (B9.out.kept k10 (fun hm => lv_far H9.out B9.out (by decide) q hm (by simp))))
           go_must (have hq10 := B10.out.cell)
           go_must (have hf10 := B10.out.frozen)
           go_must (have hl10 : q < w10.heap.size := B10.out.lt)
           go_must (have K10 := Lib.hid (LV.kept h10))
           have H10 := Lib.hid h10
           clear h10 k10 r10)))
      all_goals
        go_wp2
        go_ret
        obtain ⟨b1, b2⟩ := lv_row FlOk (fun h => h) H10.out
        have hks := (Kept.refl [q] w10).setCell (p := ⟨q, 0, none⟩) (.inl (by simp)) (.slice A10 m10 c10)
        refine .inr ⟨i, HI.out, HA.out, rfl, (K10.out.mono (T := [q]) (by simp)).trans hks (by simp), A10, m10, c10, ?_, _, FlArr.kept (by rw [List.nil_append] at b1; exact b1) hks (fun k hk hm => by have := (b2 k hk).1; simp at hm; omega), fun k hk => ⟨(b2 k hk).1, Nat.lt_of_lt_of_le (b2 k hk).2 hks.size⟩⟩
        have := B10.out.set 0 (.slice A10 m10 c10)
        simpa using this
    · have hc2 : ¬ (i + 1 = c) := fun e => hc e.symm
      go_enter Tryz.func37, Tryz.ntmps37
      go_wp2_with (go_at_call 64
                   refine (AT.out _ K0.out).mono ?_
                   rintro e w1 ⟨rfl, hk1⟩
                   rw [HA.out]
                   have K1 := Lib.hid (K0.out.trans hk1 (by simp))
                   have B1 := Lib.hid (H.out.blk.kept K1.out (by simp))
                   have hq1 := B1.out.cell
                   have hf1 := B1.out.frozen
                   have hl1 : q < w1.heap.size := B1.out.lt
                   clear hk1)
      have KD := Lib.hid (K1.out.drew)
      have N1 := Lib.hid (LV.nil KD.out : FlV w w1.drew (.slice none 0 0) [])
      have T1 := Lib.hid (arr_take (k := i) (FlArr.kept H.out.arr KD.out (by simp)) (by omega))
      have R1 := Lib.hid (arr_drop (k := i + 1) (FlArr.kept H.out.arr KD.out (by simp)) (by omega) : FlArr w1.drew G (.slice (some ⟨g, o + (i + 1) * 8, none⟩) (m - (i + 1)) (c - (i + 1))) (l.drop (i + 1)))
      have HL1 := Lib.hid (show ([] : List FlD).length + (l.take i).length ≤ 100000 by have := HLN.out; simp; omega)
      have HL2 := Lib.hid (show ([] ++ l.take i : List FlD).length + (l.drop (i + 1)).length ≤ 100000 by have := HLN.out; simp; omega)
      go_region_law ((first
        | (refine step_lvs (W := w) (w0 := w1.drew) (sl := .slice none 0 0) (l := []) (l2 := l.take i) FlOk elem_flow (fun h => h) (by omega) rfl (.const (.slice none 0 0)) (.tmp 17) rfl (by first | (simp [Act.eval]; done) | (simp [Act.eval]; rfl) | rfl) N1.out (by first | (simp [Act.eval]; done) | (simp [Act.eval]; rfl) | rfl) T1.out HL1.out ?_
           intro A9 m9 c9 w9 h9 k9 r9
           go_must (have K9 := Lib.hid (Kept.trans (S := []) ((Kept.refl [] w1).drew) (show Kept [] w1.drew w9 from k9) (by simp)))
           go_must (have B9 := Lib.hid (B1.out.kept K9.out (by simp)))
           go_must (have hq9 := B9.out.cell)
           go_must (have hf9 := B9.out.frozen)
           go_must (have hl9 : q < w9.heap.size := B9.out.lt)
           go_must (have R9 := Lib.hid (FlArr.kept R1.out (show Kept [] w1.drew w9 from k9) (by simp)))
           have H9 := Lib.hid h9
           clear h9 k9 r9)
        | (refine step_lvs (W := w) (w0 := w9) (sl := .slice A9 m9 c9) (l := [] ++ l.take i) (l2 := l.drop (i + 1)) FlOk elem_flow (fun h => h) (by omega) rfl (.tmp 18) (.tmp 25) rfl (by first | (simp [Act.eval]; done) | (simp [Act.eval]; rfl) | rfl) H9.out (by first | (simp [Act.eval]; done) | (simp [Act.eval]; rfl) | rfl) R9.out HL2.out ?_
           intro A10 m10 c10 w10 h10 k10 r10
           go_must (have B10 := Lib.hid (B9.out.kept k10 (fun hm => lv_far H9.out B9.out (by decide) q hm (by simp))))
           go_must (have hq10 := B10.out.cell)
           go_must (have hf10 := B10.out.frozen)
           go_must (have hl10 : q < w10.heap.size := B10.out.lt)
           go_must (have K10 := Lib.hid (LV.kept h10))
           have H10 := Lib.hid h10
           clear h10 k10 r10)))
      all_goals
        go_wp2
        go_ret
        obtain ⟨b1, b2⟩ := lv_row FlOk (fun h => h) H10.out
        have hks := (Kept.refl [q] w10).setCell (p := ⟨q, 0, none⟩) (.inl (by simp)) (.slice A10 m10 c10)
        refine .inr ⟨i, HI.out, HA.out, rfl, (K10.out.mono (T := [q]) (by simp)).trans hks (by simp), A10, m10, c10, ?_, _, FlArr.kept (by rw [List.nil_append] at b1; exact b1) hks (fun k hk hm => by have := (b2 k hk).1; simp at hm; omega), fun k hk => ⟨(b2 k hk).1, Nat.lt_of_lt_of_le (b2 k hk).2 hks.size⟩⟩
        have := B10.out.set 0 (.slice A10 m10 c10)
        simpa using this
end Go.Proofs.YtdabbkkjmmbigaaGreat
