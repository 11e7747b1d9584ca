
/-
  The document's answer on flows, got; on drains: until, cleared.
-/
import Derived.Test.YtdabbkkjmmbigaaSvE
namespace Go.Proofs.Ytdabbkkjmmbigaa
open Go.RowKit Go.ChangeShapes Go.WideShapes Go.ChangeAt Go.Deep Go.MapKept
set_option linter.unusedVariables false

/-- what a get owes -/
def FlGetPost (w : World) (l : List FlD) (t : TupD) (e : Ending) (w' : World) : Prop :=
  Kept [] w w' ∧ (((∀ x ∈ l, x.tup ≠ t) ∧ e = .returned (.tuple #[evF zFl, .bool false])) ∨ ∃ (i : Nat) (h : i < l.length), l[i].tup = t ∧ e = .returned (.tuple #[evF l[i], .bool true]))
set_option maxHeartbeats 3200000 in
theorem FlGet_any (w : World) {q : Nat} {G : List Nat} {A : Option Addr} {m c : Nat} {x y : Int} {l : List FlD} (h : Fls w w q G A m c x y l) (t : TupD) :
    Calls Try.prog 19 #[.pointer (some ⟨q, 0, none⟩), .agg #[.int .u32 (t.src.toNat : Nat), .int .u32 (t.dst.toNat : Nat), .int .i64 t.proto, .int .i64 t.sport, .int .i64 t.dport]] w fun e w' => FlGetPost w l t e w' := by
  have H := Lib.hid h
  have hl := h.arr.len
  unfold maxLen at hl
  obtain ⟨hl1, hl2, hl3, hl4⟩ := hl
  have hqlt := h.blk.lt
  obtain ⟨wa, hwa⟩ : ∃ wa, (w.alloc (.cells #[.int .u32 (t.src.toNat : Nat), .int .u32 (t.dst.toNat : Nat), .int .i64 t.proto, .int .i64 t.sport, .int .i64 t.dport] 29)).alloc (.cells #[.int .u32 0, .int .u32 0, .int .i64 0, .int .i64 0, .int .i64 0, .int .i64 0, .int .i64 0, .int .i64 0] 31) = wa := ⟨_, rfl⟩
  have KA := Lib.hid (hwa ▸ (by (repeat (first | exact Kept.refl _ _ | apply Kept.alloc | apply Kept.drew)) : Kept [] w ((w.alloc (.cells #[.int .u32 (t.src.toNat : Nat), .int .u32 (t.dst.toNat : Nat), .int .i64 t.proto, .int .i64 t.sport, .int .i64 t.dport] 29)).alloc (.cells #[.int .u32 0, .int .u32 0, .int .i64 0, .int .i64 0, .int .i64 0, .int .i64 0, .int .i64 0, .int .i64 0] 31))) : Kept [] w wa)
  have X0 := Lib.hid (hwa ▸ (by (repeat (first | (apply Blk.new'; simp; done) | apply Blk.alloc | apply Blk.drew)) : Blk ((w.alloc (.cells #[.int .u32 (t.src.toNat : Nat), .int .u32 (t.dst.toNat : Nat), .int .i64 t.proto, .int .i64 t.sport, .int .i64 t.dport] 29)).alloc (.cells #[.int .u32 0, .int .u32 0, .int .i64 0, .int .i64 0, .int .i64 0, .int .i64 0, .int .i64 0, .int .i64 0] 31)) w.heap.size 29 #[.int .u32 (t.src.toNat : Nat), .int .u32 (t.dst.toNat : Nat), .int .i64 t.proto, .int .i64 t.sport, .int .i64 t.dport]) : Blk wa w.heap.size 29 #[.int .u32 (t.src.toNat : Nat), .int .u32 (t.dst.toNat : Nat), .int .i64 t.proto, .int .i64 t.sport, .int .i64 t.dport])
  have Y0 := Lib.hid (hwa ▸ (by (repeat (first | (apply Blk.new'; simp; done) | apply Blk.alloc | apply Blk.drew)) : Blk ((w.alloc (.cells #[.int .u32 (t.src.toNat : Nat), .int .u32 (t.dst.toNat : Nat), .int .i64 t.proto, .int .i64 t.sport, .int .i64 t.dport] 29)).alloc (.cells #[.int .u32 0, .int .u32 0, .int .i64 0, .int .i64 0, .int .i64 0, .int .i64 0, .int .i64 0, .int .i64 0] 31)) (w.heap.size + 1) 31 #[.int .u32 0, .int .u32 0, .int .i64 0, .int .i64 0, .int .i64 0, .int .i64 0, .int .i64 0, .int .i64 0]) : Blk wa (w.heap.size + 1) 31 #[.int .u32 0, .int .u32 0, .int .i64 0, .int .i64 0, .int .i64 0, .int .i64 0, .int .i64 0, .int .i64 0])
  have AT := Lib.hid (at_any wa l t (h.blk.kept KA.out (by simp)) (FlArr.kept h.arr KA.out (by simp)))
  clear h
  go_enter Try.func19, Try.ntmps19
  have hx0 := X0.out.cell
  rcases at_cases l t with ⟨hat, hno⟩ | ⟨i, hi, hat, htt, _⟩
  · have HA := Lib.hid hat
    have HNO := Lib.hid hno
    clear hat hno
    go_wp2_with (first
      | (rw [hwa])
      | (go_at_call 48
         refine AT.out.mono ?_
         rintro e w1 ⟨rfl, hk1⟩
         rw [HA.out]
         have K1 := Lib.hid (KA.out.trans hk1 (by simp))
         have Y1 := Lib.hid (Y0.out.kept hk1 (by simp))
         clear hk1)
      | ((with_reducible show wpList _ _ _ ({ dst := none, op := Op.store 31 (.tmp 4) (.tmp 19), type := _, pos := _, after := _, guard := _ } :: _) _ _); refine wpList_put (t := 31) rfl 31 (.tmp 4) (.tmp 19) rfl _ (by rfl) (by rfl) (by exact Y1.out) (by rfl) (by kernel_rfl) (by simp [Value.oneCell']) ?_; intro w7 hb7 hk7; have Hb7 := Lib.hid hb7; have Hk7 := Lib.hid hk7; clear hb7 hk7))
    refine bodyPost_ret (results_cell1 (t := 31) Try.results19 (by rfl) Hb7.out _ Try.underlying31 rfl (by kernel_rfl)) rfl ?_
    exact ⟨K1.out.trans Hk7.out (fun k hk => .inr (by simp at hk; omega)), .inl ⟨HNO.out, rfl⟩⟩
  · have HA := Lib.hid hat
    have HT := Lib.hid htt
    have him : i < m := by rw [← hl1]; exact hi
    have HI := Lib.hid hi
    have i0 : (0 : Int) ≤ (i : Int) := by omega
    have i1 : (i : Int) < (m : Int) := by omega
    obtain ⟨g, o, rfl, hg, hgG, c0, c1, c2, c3, c4, c5, c6, c7⟩ := H.out.arr.at (k := i) hi
    obtain ⟨f, hf⟩ : ∃ f, l[i]'hi = f := ⟨_, rfl⟩
    have HF : Hid (∃ h : i < l.length, l[i]'h = f) := Lib.hid ⟨hi, hf⟩
    simp only [hf] at c0 c1 c2 c3 c4 c5 c6 c7
    clear hf
    clear hat htt hl1 hl4
    go_wp2_with (first
      | (go_at_call 48
         refine AT.out.mono ?_
         rintro e w1 ⟨rfl, hk1⟩
         rw [HA.out]
         have K1 := Lib.hid (KA.out.trans hk1 (by simp))
         have Y1 := Lib.hid (Y0.out.kept hk1 (by simp))
         have hq1 := (H.out.blk.kept K1.out (by simp)).cell
         have hl1 : q < w1.heap.size := Nat.lt_of_lt_of_le hqlt K1.out.size
         have d0 := (K1.out.cell (p := ⟨g, o + i * 8, none⟩) hg (by simp)).trans c0
         have d1 := (K1.out.cell (p := ⟨g, o + i * 8 + 1, none⟩) hg (by simp)).trans c1
         have d2 := (K1.out.cell (p := ⟨g, o + i * 8 + 2, none⟩) hg (by simp)).trans c2
         have d3 := (K1.out.cell (p := ⟨g, o + i * 8 + 3, none⟩) hg (by simp)).trans c3
         have d4 := (K1.out.cell (p := ⟨g, o + i * 8 + 4, none⟩) hg (by simp)).trans c4
         have d5 := (K1.out.cell (p := ⟨g, o + i * 8 + 5, none⟩) hg (by simp)).trans c5
         have d6 := (K1.out.cell (p := ⟨g, o + i * 8 + 6, none⟩) hg (by simp)).trans c6
         have d7 := (K1.out.cell (p := ⟨g, o + i * 8 + 7, none⟩) hg (by simp)).trans c7
         clear hk1)
      | ((with_reducible show wpList _ _ _ ({ dst := none, op := Op.store 31 (.tmp 4) (.tmp 18), type := _, pos := _, after := _, guard := _ } :: _) _ _); refine wpList_put (t := 31) rfl 31 (.tmp 4) (.tmp 18) rfl _ (by rfl) (by rfl) (by exact Y1.out) (by rfl) (by kernel_rfl) (by simp [Value.oneCell']) ?_; intro w7 hb7 hk7; have Hb7 := Lib.hid hb7; have Hk7 := Lib.hid hk7; clear hb7 hk7))
    refine bodyPost_ret (results_cell1 (t := 31) Try.results19 (by rfl) Hb7.out _ Try.underlying31 rfl (by kernel_rfl)) rfl ?_
    obtain ⟨hh, e⟩ := HF.out
    exact ⟨K1.out.trans Hk7.out (fun k hk => .inr (by simp at hk; omega)), .inr ⟨i, hh, HT.out, by rw [e]; rfl⟩⟩
theorem wpList_lvs {α : Type} {n bytes : Nat} {e t : TypeId} {Dec : World → List Nat → List Value → α → Prop} (D : DecOk n Dec) (E : Elem Try.prog t e n bytes) (hD : ∀ {w w' : World} {G G' : List Nat} {cs : List Value} {a : α}, Dec w G cs a → Dec w' G' cs a) (hby : bytes ≤ 1000)
    {ops : Array Oper} {rest : List Oper} {o : Oper} {a : Act} {Q : Exit → Act → World → Prop} {w0 : World} (hgd : o.guard = none) (s x : Operand)
    (ho : o.op = .call { callee := .builtin .append, args := #[s, x], argTypes := #[t, t] }) {W : World} {sl : Value} {l l2 : List α} {G : List Nat} {A : Option Addr} {m c : Nat}
    (hs : a.eval s = sl) (hN : LV Dec e n W w0 sl l) (hx : a.eval x = .slice A m c) (hb : ArrOf w0 G n (fun w => Dec w G) (.slice A m c) l2) (hl : l.length + l2.length ≤ 100000)
    (h : ∀ A' m' c' w', LV Dec e n W w' (.slice A' m' c') (l ++ l2) → Kept (rowOf sl) w0 w' → (∀ k ∈ rowOf sl, W.heap.size ≤ k ∧ k < w0.heap.size) → wpList Try.prog ops Q rest (a.put o.dst (.slice A' m' c')) w') : wpList Try.prog ops Q (o :: rest) a w0 := by
  obtain ⟨css, G1, h1⟩ := hN
  obtain ⟨A0, m0, c0, cs2, e0, l0, _, _, _, hd2, hlen2, hr2⟩ := ArrOf.decs hb
  injection e0 with e1 e2 e3
  subst e1 e2 e3
  have hD2 : Decs Dec w0 [] cs2 l2 := ⟨hd2.1, fun i cs b h1 h2 => hD (hd2.2 i cs b h1 h2)⟩
  have hfl : cs2.flatten.length = m * n := by rw [flat_len hlen2, hd2.1, l0]
  have hmul : (l.length + m) * bytes ≤ 100000 * 1000 := Nat.mul_le_mul (by omega) hby
  refine wpList_app _ hgd s x t ho E hs h1.own hx hr2 hfl (hD2.ones D) (by unfold maxLen; omega) (by omega) (fun v' w' ho' hk hr' => ?_)
  have hx := LVx.app D h1 (Kept.refl [] w0) hD2 (by simp) ho' (by rw [List.length_append, l0]) (by simp) hk hr'
  obtain ⟨A', m', c', rfl⟩ := Own.form' ho'
  exact h A' m' c' w' ⟨_, _, hx⟩ hk (fun k hk => ⟨h1.new k hk, h1.own.lt k hk⟩)
theorem getM_hit {l : List (Int × Int)} {b : Int} {j : Nat} (hj : j < l.length) (h1 : ∀ x ∈ l.take j, x.1 ≠ b) (h2 : l[j].1 = b) : getM l b = some l[j].2 := by
  conv => lhs; rw [← List.take_append_drop j l]
  rw [getM_append, getM_none.2 h1, ← List.getElem_cons_drop (h := hj), getM_cons, if_pos h2]
  rfl
/-- drains in memory, as the document's answer has them -/
structure Drs (w : World) (q : Nat) (G : List Nat) (A : Option Addr) (m c : Nat) (l : List (Int × Int)) : Prop where
  blk : Blk w q 95 #[.slice A m c]
  arr : DrArr w G (.slice A m c) l
  lt : ∀ k ∈ G, k < w.heap.size
  nq : q ∉ G
set_option maxHeartbeats 1600000 in
theorem Until_any (w : World) {q : Nat} {G : List Nat} {A : Option Addr} {m c : Nat} {l : List (Int × Int)} (h : Drs w q G A m c l) (b : Int) :
    Calls Try.prog 45 #[.pointer (some ⟨q, 0, none⟩), .int .i64 b] w fun e w' => e = .returned (.tuple #[.int .i64 ((getM l b).getD 0), .bool (getM l b).isSome]) ∧ Kept [] w w' := by
  have hl := h.arr.len
  unfold maxLen at hl
  obtain ⟨hl1, hl2, hl3, hl4⟩ := hl
  have H := Lib.hid h
  have A1 := Lib.hid hl1
  have hq0 := h.blk.cell
  have hqlt := h.blk.lt
  clear h hl1 hl4
  go_enter Try.func45, Try.ntmps45
  go_wp2
  go_loopg [13] m (fun gg i wr => ∃ j : Nat, j ≤ m ∧ gg = m - j ∧ i = .int .i64 j ∧ (∀ x ∈ l.take j, x.1 ≠ b) ∧ Kept [] w wr)
  case atStart => exact ⟨0, by omega, by omega, rfl, by simp, Kept.refl _ _⟩
  case round =>
    obtain ⟨j, hj, rfl, rfl, hs, hkw⟩ := hrel
    have Hs := Lib.hid hs
    have Hkw := Lib.hid hkw
    clear hs hkw
    by_cases hlt : j < m
    · have hkl : j < l.length := by rw [A1.out]; exact hlt
      obtain ⟨g, o, rfl, hg, hgG, c0, c1⟩ := (DrArr.kept H.out.arr Hkw.out (by simp)).at (k := j) hkl
      have Htk := Lib.hid (show l.take (j + 1) = l.take j ++ [l[j]] by rw [List.take_add_one, List.getElem?_eq_getElem hkl]; rfl)
      have Hhit := Lib.hid (fun h2 => getM_hit hkl Hs.out h2)
      generalize l[j]'hkl = d at *
      have i0 : (0 : Int) ≤ (j : Int) := by omega
      have i1 : (j : Int) < (m : Int) := by omega
      have iw : IntKind.i64.wrap ((j : Int) + 1) = (j : Int) + 1 := IntWalk.i64_in _ (by omega)
      by_cases hd : d.1 = b
      · have HG := Lib.hid (Hhit.out hd)
        have hd' : (d.1 == b) = true := by simp [hd]
        clear hd
        go_wp2_with (((with_reducible show wpList _ _ _ ({ dst := none, op := Op.store 51 (.tmp 7) (.tmp 16), type := _, pos := _, after := _, guard := _ } :: _) _ _); refine wpList_put (t := 51) rfl 51 (.tmp 7) (.tmp 16) rfl _ (by rfl) (by rfl) (by (repeat (first | (apply Blk.new'; simp; done) | apply Blk.alloc | apply Blk.drew))) (by rfl) (by kernel_rfl) (by simp [Value.oneCell']) ?_; intro w5 hb5 hk5; have Hb5 := Lib.hid hb5; have Hk5 := Lib.hid hk5; clear hb5 hk5)
                     have K5 := Lib.hid (Hkw.out.trans (((Kept.refl [] wr).alloc _).trans Hk5.out (fun i hi => .inr (by simp at hi; omega))) (by simp))
                     have hx5 := Hb5.out.cell)
        go_ret2
        exact ⟨by rw [HG.out]; rfl, K5.out⟩
      · have HD := Lib.hid hd
        have hd' : (d.1 == b) = false := by simp [hd]
        clear hd
        go_wp2_with (((with_reducible show wpList _ _ _ ({ dst := none, op := Op.store 51 (.tmp 7) (.tmp 16), type := _, pos := _, after := _, guard := _ } :: _) _ _); refine wpList_put (t := 51) rfl 51 (.tmp 7) (.tmp 16) rfl _ (by rfl) (by rfl) (by (repeat (first | (apply Blk.new'; simp; done) | apply Blk.alloc | apply Blk.drew))) (by rfl) (by kernel_rfl) (by simp [Value.oneCell']) ?_; intro w5 hb5 hk5; have Hb5 := Lib.hid hb5; have Hk5 := Lib.hid hk5; clear hb5 hk5)
                     have K5 := Lib.hid (Hkw.out.trans (((Kept.refl [] wr).alloc _).trans Hk5.out (fun i hi => .inr (by simp at hi; omega))) (by simp))
                     have hx5 := Hb5.out.cell)
        go_roundg (m - (j + 1))
        case measure => omega
        case rel =>
          refine ⟨j + 1, by omega, rfl, by go_num, fun x hx => ?_, K5.out⟩
          rw [Htk.out, List.mem_append] at hx
          rcases hx with hx | hx
          · exact Hs.out x hx
          · rw [List.mem_singleton] at hx
            rw [hx]
            exact HD.out
    · obtain rfl : m = j := by omega
      have i1 : ¬ (m : Int) < (m : Int) := by omega
      have hres := Lib.hid (show getM l b = none from getM_none.2 (by
        have := Hs.out
        rwa [List.take_of_length_le (by rw [A1.out]; exact Nat.le_refl _)] at this))
      go_wp2
      go_ret2
      exact ⟨by rw [hres.out]; rfl, Hkw.out⟩
/-- what a clear owes -/
def DrClearPost (w : World) (q : Nat) (l : List (Int × Int)) (b : Int) (e : Ending) (w' : World) : Prop :=
  (∃ t : Bool, e = .returned (.bool t)) ∧ Kept [q] w w' ∧ ∃ A' m' c', Blk w' q 95 #[.slice A' m' c'] ∧ ∃ G', DrArr w' G' (.slice A' m' c') (delM l b) ∧ ∀ k ∈ G', w.heap.size ≤ k ∧ k < w'.heap.size
theorem delM_snoc (l : List (Int × Int)) (d : Int × Int) (b : Int) : delM (l ++ [d]) b = delM l b ++ (if d.1 = b then [] else [d]) := by
  unfold delM
  rw [List.filter_append]
  by_cases h : d.1 = b <;> simp [h]
set_option maxHeartbeats 1600000 in
theorem Clear_any (w : World) {q : Nat} {G : List Nat} {A : Option Addr} {m c : Nat} {l : List (Int × Int)} (h : Drs w q G A m c l) (b : Int) (hm : m ≤ 1000) :
    Calls Try.prog 47 #[.pointer (some ⟨q, 0, none⟩), .int .i64 b] w fun e w' => DrClearPost w q l b e w' := by
  have hl := h.arr.len
  unfold maxLen at hl
  obtain ⟨hl1, hl2, hl3, hl4⟩ := hl
  have H := Lib.hid h
  have A1 := Lib.hid hl1
  have hq0 := h.blk.cell
  have hqlt := h.blk.lt
  clear h hl1 hl4
  go_enter Try.func47, Try.ntmps47
  go_wp2
  go_loopg [5, 14] m (fun gg s i wr => ∃ (j : Nat) (A : Option Addr) (m1 c1 : Nat), j ≤ m ∧ gg = m - j ∧ s = .slice A m1 c1 ∧ i = .int .i64 j ∧ DrV w wr (.slice A m1 c1) (delM (l.take j) b))
  case atStart => exact ⟨0, _, _, _, by omega, by omega, rfl, rfl, LV.nil (Kept.refl _ _)⟩
  case round =>
    obtain ⟨j, As, ms, cs, hj, rfl, rfl, rfl, hv⟩ := hrel
    have Hv := Lib.hid hv
    have Hkw := Lib.hid (LV.kept hv)
    have hsz := Hkw.out.size
    clear hv
    by_cases hlt : j < m
    · have hkl : j < l.length := by rw [A1.out]; exact hlt
      obtain ⟨g, o, rfl, hg, hgG, c0, c1⟩ := (DrArr.kept H.out.arr Hkw.out (by simp)).at (k := j) hkl
      have Htk := Lib.hid (show delM (l.take (j + 1)) b = delM (l.take j) b ++ (if l[j].1 = b then [] else [l[j]]) by rw [List.take_add_one, List.getElem?_eq_getElem hkl]; exact delM_snoc _ _ _)
      have hll : (delM (l.take j) b).length + [l[j]].length ≤ 100000 := by
        have h1 := del_len_le (l.take j) b
        rw [List.length_take] at h1
        simp
        omega
      have HLL := Lib.hid hll
      clear hll
      generalize l[j]'hkl = d at *
      have i0 : (0 : Int) ≤ (j : Int) := by omega
      have i1 : (j : Int) < (m : Int) := by omega
      have iw : IntKind.i64.wrap ((j : Int) + 1) = (j : Int) + 1 := IntWalk.i64_in _ (by omega)
      by_cases hd : d.1 = b
      · have HD := Lib.hid hd
        have hd' : (d.1 == b) = true := by simp [hd]
        have hd2 : (d.1 != b) = false := by simp [hd]
        clear hd
        go_wp2_with (((with_reducible show wpList _ _ _ ({ dst := none, op := Op.store 51 (.tmp 7) (.tmp 17), type := _, pos := _, after := _, guard := _ } :: _) _ _); refine wpList_put (t := 51) rfl 51 (.tmp 7) (.tmp 17) rfl _ (by rfl) (by rfl) (by (repeat (first | (apply Blk.new'; simp; done) | apply Blk.alloc | apply Blk.drew))) (by rfl) (by kernel_rfl) (by simp [Value.oneCell']) ?_; intro w5 hb5 hk5; have Hb5 := Lib.hid hb5; have Hk5 := Lib.hid hk5; clear hb5 hk5)
                     have K5 := Lib.hid (((Kept.refl [] wr).alloc _).trans Hk5.out (fun i hi => .inr (by simp at hi; omega)))
                     have hx5 := Hb5.out.cell)
        go_roundg (m - (j + 1))
        case measure => omega
        case rel => exact ⟨j + 1, _, _, _, by omega, rfl, rfl, by go_num, by rw [Htk.out, if_pos HD.out, List.append_nil]; exact LV.go DrOk Hv.out K5.out⟩
      · have HD := Lib.hid hd
        have hd' : (d.1 == b) = false := by simp [hd]
        have hd2 : (d.1 != b) = true := by simp [hd]
        clear hd
        go_wp2_with (first
          | (((with_reducible show wpList _ _ _ ({ dst := none, op := Op.store 51 (.tmp 7) (.tmp 17), type := _, pos := _, after := _, guard := _ } :: _) _ _); refine wpList_put (t := 51) rfl 51 (.tmp 7) (.tmp 17) rfl _ (by rfl) (by rfl) (by (repeat (first | (apply Blk.new'; simp; done) | apply Blk.alloc | apply Blk.drew))) (by rfl) (by kernel_rfl) (by simp [Value.oneCell']) ?_; intro w5 hb5 hk5; have Hb5 := Lib.hid hb5; have Hk5 := Lib.hid hk5; clear hb5 hk5)
             have K5 := Lib.hid (((Kept.refl [] wr).alloc _).trans Hk5.out (fun i hi => .inr (by simp at hi; omega)))
             have hx5 := Hb5.out.cell)
          | (at_builtin
             have hN7 := LV.go DrOk Hv.out (K5.out.alloc (.cells #[.int .i64 d.1, .int .i64 d.2] 51))
             apply wpList_lvs (l2 := [d]) DrOk elem_drain (fun h => h) (by omega) rfl (.tmp 22) (.tmp 24) rfl
             case hs => exact rfl
             case hN => exact hN7
             case hx => exact rfl
             case hb => exact arr_blk (Blk.new _ _ _) rfl rfl
             case hl => exact HLL.out
             intro A7 m7 c7 w7 h7 k7 r7
             have V7 := Lib.hid h7
             clear h7 k7 r7 hN7))
        go_roundg (m - (j + 1))
        case measure => omega
        case rel => exact ⟨j + 1, _, _, _, by omega, rfl, rfl, by go_num, by rw [Htk.out, if_neg HD.out]; exact V7.out⟩
    · obtain rfl : m = j := by omega
      have i1 : ¬ (m : Int) < (m : Int) := by omega
      have B1 := Lib.hid (H.out.blk.kept Hkw.out (by simp))
      have hq1 := B1.out.cell
      have hf1 := B1.out.frozen
      have hl1 := B1.out.lt
      have HV := Lib.hid (show DrV w wr (.slice As ms cs) (delM l b) by
        have := Hv.out
        rwa [List.take_of_length_le (by rw [A1.out]; exact Nat.le_refl _)] at this)
      go_wp2
      go_ret
      obtain ⟨b1, b2⟩ := lv_row DrOk (fun h => h) HV.out
      have hks := (Kept.refl [q] wr).setCell (p := ⟨q, 0, none⟩) (.inl (by simp)) (.slice As ms cs)
      refine ⟨⟨_, rfl⟩, (Hkw.out.mono (T := [q]) (by simp)).trans hks (by simp), As, ms, cs, ?_, _, DrArr.kept b1 hks (fun k hk hm => by have := (b2 k hk).1; simp at hm; omega), fun k hk => ⟨(b2 k hk).1, Nat.lt_of_lt_of_le (b2 k hk).2 hks.size⟩⟩
      have := B1.out.set 0 (.slice As ms cs)
      simpa using this
end Go.Proofs.Ytdabbkkjmmbigaa
