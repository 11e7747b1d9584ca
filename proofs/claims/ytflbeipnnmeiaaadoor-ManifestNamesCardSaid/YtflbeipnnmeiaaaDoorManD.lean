
/-
  The contract of manifest.Decode.
-/
import Derived.Test.YtflbeipnnmeiaaaDoorManC
import Derived.Test.YtflbeipnnmeiaaaDoorRecK
import Derived.Test.YtflbeipnnmeiaaaDoorRecI
import Derived.Test.YtflbeipnnmeiaaaDoorFrameT
import Derived.Deep.RegionWith
import Derived.Deep.DeepCutAuto
namespace Go.Proofs.YtflbeipnnmeiaaaDoor
open Go.RowKit Go.ChangeShapes Go.WideShapes Go.Deep
set_option linter.unusedVariables false
set_option maxRecDepth 100000

theorem info_int : (Tryd.prog.info? 3).map (fun i => (i.zero, i.size, i.bytes)) = some (some (.int .i64 0), 1, 8) := by kernel_rfl
theorem elem_int : Elem Tryd.prog 69 3 1 8 := Elem.mk' Tryd.underlying69 info_int rfl (by omega)
/-- in w the slice sl, made since W, in no block that was in W0, has the numbers l -/
def IntO (W W0 w : World) (sl : Value) (l : List Int) : Prop := ∃ css, LVx IntDec 3 1 W w sl l css [] ∧ ∀ k ∈ rowOf sl, W0.heap.size ≤ k
section
variable {W W0 w w' : World} {sl : Value} {l : List Int}
theorem IntO.nil (hk : Kept [] W w) : IntO W W0 w (.slice none 0 0) [] := ⟨[], ⟨Own.nil _ _ _, by simp [rowOf, Value.ownBlock], Decs.nil, by simp, hk⟩, by simp [rowOf, Value.ownBlock]⟩
theorem IntO.form (h : IntO W W0 w sl l) : ∃ A m c, sl = .slice A m c := by obtain ⟨_, h, _⟩ := h; exact Own.form' h.own
theorem IntO.lv (h : IntO W W0 w sl l) : LV IntDec 3 1 W w sl l := by obtain ⟨css, h, _⟩ := h; exact ⟨css, [], h⟩
theorem IntO.kept (h : IntO W W0 w sl l) : Kept [] W w := by obtain ⟨css, h, _⟩ := h; exact h.keptW
theorem IntO.row (h : IntO W W0 w sl l) : ∀ k ∈ rowOf sl, W0.heap.size ≤ k := by obtain ⟨_, _, h⟩ := h; exact h
theorem IntO.other {S : List Nat} (h : IntO W W0 w sl l) (hk : Kept S w w') (hS : ∀ k ∈ S, k < W0.heap.size ∧ W.heap.size ≤ k) : IntO W W0 w' sl l := by
  obtain ⟨css, h1, h2⟩ := h
  exact ⟨css, h1.other IntOk hk (fun k hk' hm => by have := h2 k hk'; have := (hS k hm).1; omega) (by simp) (fun k hk' => (hS k hk').2), h2⟩
theorem IntO.go (h : IntO W W0 w sl l) (hk : Kept [] w w') : IntO W W0 w' sl l := h.other hk (by simp)
theorem IntO.lt (h : IntO W W0 w sl l) : ∀ k ∈ rowOf sl, k < w.heap.size := by obtain ⟨_, h, _⟩ := h; exact h.own.lt
theorem IntO.cast {l' : List Int} (h : IntO W W0 w sl l) (e : l = l') : IntO W W0 w sl l' := e ▸ h
theorem IntO.small {A : Option Addr} {m c : Nat} (h : LV IntDec 3 1 W w (.slice A m c) l) : ∃ G, IntArr w G (.slice A m c) l := by
  obtain ⟨G, ha, _⟩ := LV.arr IntOk h
  exact ⟨G, ha⟩
end
/-- one number more, laid in a block of its own -/
theorem wpList_num {ops : Array Oper} {rest : List Oper} {o : Oper} {a : Act} {Q : Exit → Act → World → Prop} {w0 : World} (hgd : o.guard = none) (s x : Operand)
    (ho : o.op = .call { callee := .builtin .append, args := #[s, x], argTypes := #[69, 69] }) {W W0 : World} {sl : Value} {l : List Int} {n : Int} {g : Nat} (hg : g = w0.heap.size) (hW0 : W0.heap.size ≤ w0.heap.size) (hn : 0 ≤ n ∧ n < 4294967296)
    (hs : a.eval s = sl) (hN : IntO W W0 w0 sl l) (hx : a.eval x = .slice (some ⟨g, 0, none⟩) 1 1) (hl : l.length ≤ 1000000)
    (h : ∀ A m c w', IntO W W0 w' (.slice A m c) (l ++ [n]) → Kept (rowOf sl) w0 w' → wpList Tryd.prog ops Q rest (a.put o.dst (.slice A m c)) w') : wpList Tryd.prog ops Q (o :: rest) a (w0.alloc (.cells #[.int .i64 n] 3)) := by
  subst hg
  obtain ⟨css, h1, h2⟩ := hN
  have ha := h1.go IntOk ((Kept.refl [] w0).alloc (.cells #[.int .i64 n] 3))
  refine wpList_app _ hgd s x 69 ho elem_int hs ha.own hx (Rd.laid w0 [.int .i64 n] _) rfl (by simp [Value.oneCell']) (by unfold maxLen; omega) (by omega) (fun v' w' ho' hk hr => ?_)
  have hx := LVx.app IntOk ha (Kept.refl [] _) (css' := [[.int .i64 n]]) (l' := [n]) (G' := []) (Decs.one' ⟨rfl, by omega, by omega⟩) (by simp) ho' (by simp) (by simp) hk hr
  obtain ⟨A, m, c, rfl⟩ := Own.form' ho'
  refine h A m c w' ⟨_, hx, fun k hk' => ?_⟩ (((Kept.refl (rowOf sl) w0).alloc _).trans hk (fun i hi => .inl hi))
  rcases hr k hk' with h3 | h3
  · exact h2 k h3
  · have : w0.heap.size ≤ (w0.alloc (.cells #[.int .i64 n] 3)).heap.size := by simp
    omega
theorem step_num {ops : Array Oper} {o : Oper} {a : Act} {K : Act → World → Prop} {Q : Exit → Act → World → Prop} {E0 : Prop} {w0 : World} (hgd : o.guard = none) (s x : Operand)
    (ho : o.op = .call { callee := .builtin .append, args := #[s, x], argTypes := #[69, 69] }) {W W0 : World} {sl : Value} {l : List Int} {n : Int} {g : Nat} (hg : g = w0.heap.size) (hW0 : W0.heap.size ≤ w0.heap.size) (hn : 0 ≤ n ∧ n < 4294967296)
    (hs : a.eval s = sl) (hN : IntO W W0 w0 sl l) (hx : a.eval x = .slice (some ⟨g, 0, none⟩) 1 1) (hl : l.length ≤ 1000000)
    (h : ∀ A m c w', IntO W W0 w' (.slice A m c) (l ++ [n]) → Kept (rowOf sl) w0 w' → K (a.put o.dst (.slice A m c)) w') : if Region.wanted o (yielded ops a.tmps) = true then Oper.wp Tryd.prog o a (w0.alloc (.cells #[.int .i64 n] 3)) K Q else E0 := by
  subst hg
  obtain ⟨css, h1, h2⟩ := hN
  have ha := h1.go IntOk ((Kept.refl [] w0).alloc (.cells #[.int .i64 n] 3))
  refine step_app _ hgd s x 69 ho elem_int hs ha.own hx (Rd.laid w0 [.int .i64 n] _) rfl (by simp [Value.oneCell']) (by unfold maxLen; omega) (by omega) (fun v' w' ho' hk hr => ?_)
  have hx := LVx.app IntOk ha (Kept.refl [] _) (css' := [[.int .i64 n]]) (l' := [n]) (G' := []) (Decs.one' ⟨rfl, by omega, by omega⟩) (by simp) ho' (by simp) (by simp) hk hr
  obtain ⟨A, m, c, rfl⟩ := Own.form' ho'
  refine h A m c w' ⟨_, hx, fun k hk' => ?_⟩ (((Kept.refl (rowOf sl) w0).alloc _).trans hk (fun i hi => .inl hi))
  rcases hr k hk' with h3 | h3
  · exact h2 k h3
  · have : w0.heap.size ≤ (w0.alloc (.cells #[.int .i64 n] 3)).heap.size := by simp
    omega
theorem rdU_num (o : Option (List UInt8)) (k : Nat) : (rdU (k + 1) o) = ((rdU k o).1 ++ [((gk (rdU k o).2 4 : Nat) : Int)], nk (rdU k o).2 4) := rfl
theorem goodM_end (cap : Nat) (v : Int) (bs : List UInt8) : goodM cap v bs = (decide (endOf ((rdM cap v bs).2.getD []) (erO (rdM cap v bs).2) = 0) && mayM (rdM cap v bs).1) := by
  unfold goodM
  congr 1
  rw [Bool.eq_iff_iff]
  simp [end_iff]

theorem decM_bad {bs : List UInt8} (h : (takeF bs).2.2 ≠ 0) : decME bs = (takeF bs).2.2 ∧ decMR bs = default := by
  have e : decME bs = (takeF bs).2.2 := by unfold decME; rw [if_pos h]
  exact ⟨e, by unfold decMR; rw [if_neg (by rw [e]; exact h)]⟩
theorem decM_form {bs : List UInt8} (h : (takeF bs).2.2 = 0) (h2 : (takeF bs).2.1 < bs.length ∨ (takeF bs).1.kind ≠ 100) : decME bs = 3 ∧ decMR bs = default := by
  have e : decME bs = 3 := by unfold decME; rw [if_neg (by omega), if_pos h2]
  exact ⟨e, by unfold decMR; rw [if_neg (by rw [e]; decide)]⟩
theorem decM_ver {bs : List UInt8} (h : (takeF bs).2.2 = 0) (h2 : ¬ ((takeF bs).2.1 < bs.length ∨ (takeF bs).1.kind ≠ 100)) (h3 : verB (takeF bs).1.ver = false) : decME bs = 10 ∧ decMR bs = default := by
  have e : decME bs = 10 := by unfold decME; rw [if_neg (by omega), if_neg h2, if_pos h3]
  exact ⟨e, by unfold decMR; rw [if_neg (by rw [e]; decide)]⟩
theorem decM_good {bs : List UInt8} (h : (takeF bs).2.2 = 0) (h2 : ¬ ((takeF bs).2.1 < bs.length ∨ (takeF bs).1.kind ≠ 100)) (h3 : verB (takeF bs).1.ver = true) :
    (goodM 65 (takeF bs).1.ver (takeF bs).1.body = false → decME bs = 3 ∧ decMR bs = default) ∧ (goodM 65 (takeF bs).1.ver (takeF bs).1.body = true → decME bs = 0 ∧ decMR bs = (rdM 65 (takeF bs).1.ver (takeF bs).1.body).1) := by
  constructor <;> intro hg
  · have e : decME bs = 3 := by unfold decME; rw [if_neg (by omega), if_neg h2, if_neg (by rw [h3]; decide), if_neg (by rw [hg]; decide)]
    exact ⟨e, by unfold decMR; rw [if_neg (by rw [e]; decide)]⟩
  · have e : decME bs = 0 := by unfold decME; rw [if_neg (by omega), if_neg h2, if_neg (by rw [h3]; decide), if_pos hg]
    exact ⟨e, by unfold decMR; rw [if_pos e]⟩
def ManRet (w : World) (bs : List UInt8) (e : Ending) (w' : World) : Prop := ∃ sl, e = .returned (.tuple #[.agg #[.int .i64 (decMR bs).ver, .int .i64 (decMR bs).next, sl], .int .i64 (decME bs)]) ∧ LV IntDec 3 1 w w' sl (decMR bs).segs
set_option maxHeartbeats 3200000 in
/-- what is no frame, or no manifest's -/
theorem mDecode_bad (w : World) {G : List Nat} {A : Option Addr} {m c : Nat} {bs : List UInt8} (h : RdB w G (.slice A m c) bs) (hG : ∀ k ∈ G, k < w.heap.size)
    (hq : (takeF bs).2.2 ≠ 0 ∨ (takeF bs).2.1 < bs.length ∨ (takeF bs).1.kind ≠ 100 ∨ verB (takeF bs).1.ver = false) :
    Calls Tryd.prog 41 #[.slice A m c] w (ManRet w bs) := by
  have H := Lib.hid (h.kept ((Kept.refl [] w).alloc (.cells #[.int .i64 0, .int .i64 0, .slice none 0 0] 71)) (by simp))
  have hlen := h.len.1
  have hcm := h.len.2.2.1
  have hmc := h.len.2.1
  unfold maxLen at hcm
  have hways : ((takeF bs).2.2 ≠ 0 ∧ decME bs = (takeF bs).2.2 ∧ decMR bs = default) ∨ ((takeF bs).2.2 = 0 ∧ (takeF bs).2.1 < m ∧ decME bs = 3 ∧ decMR bs = default) ∨ ((takeF bs).2.2 = 0 ∧ ¬ (takeF bs).2.1 < m ∧ (takeF bs).1.kind ≠ 100 ∧ decME bs = 3 ∧ decMR bs = default) ∨
      ((takeF bs).2.2 = 0 ∧ ¬ (takeF bs).2.1 < m ∧ (takeF bs).1.kind = 100 ∧ (takeF bs).1.ver < 1 ∧ decME bs = 10 ∧ decMR bs = default) ∨ ((takeF bs).2.2 = 0 ∧ ¬ (takeF bs).2.1 < m ∧ (takeF bs).1.kind = 100 ∧ 1 ≤ (takeF bs).1.ver ∧ 3 < (takeF bs).1.ver ∧ decME bs = 10 ∧ decMR bs = default) := by
    rw [← hlen]
    by_cases h0 : (takeF bs).2.2 = 0
    · right
      by_cases h1 : (takeF bs).2.1 < bs.length
      · exact .inl ⟨h0, h1, decM_form h0 (.inl h1)⟩
      · by_cases h2 : (takeF bs).1.kind = 100
        · have h3 : verB (takeF bs).1.ver = false := by rcases hq with hq | hq | hq | hq <;> first | exact hq | omega
          have hz := decM_ver h0 (by omega) h3
          simp only [verB, Bool.and_eq_false_iff, decide_eq_false_iff_not] at h3
          by_cases h4 : (takeF bs).1.ver < 1
          · exact .inr (.inr (.inl ⟨h0, h1, h2, h4, hz⟩))
          · exact .inr (.inr (.inr ⟨h0, h1, h2, by omega, by omega, hz⟩))
        · exact .inr (.inl ⟨h0, h1, h2, decM_form h0 (.inr h2)⟩)
    · exact .inl ⟨h0, decM_bad h0⟩
  obtain ⟨f, n, e, ht⟩ : ∃ f n e, takeF bs = (f, n, e) := ⟨_, _, _, rfl⟩
  rw [ht] at hways
  dsimp only at hways
  obtain ⟨k, v, body⟩ := f
  dsimp only at hways
  have HT := Lib.hid ht
  clear ht hq h hlen
  unfold ManRet
  rcases hways with ⟨d0, hz⟩ | ⟨d0, d1, hz⟩ | ⟨d0, d1, d2, hz⟩ | ⟨d0, d1, d2, d3, hz⟩ | ⟨d0, d1, d2, d3, d4, hz⟩
  all_goals
    first | subst d0 | (have b0 : (e == 0) = false := by simpa using d0
                        have c0 : (e != 0) = true := by simpa using d0)
    first | subst d2 | (have b2 : (k == 100) = false := by simpa using d2
                        have c2 : (k != 100) = true := by simpa using d2) | skip
    have HZ := Lib.hid hz
    clear hz
    go_enter Tryd.func41, Tryd.ntmps41
    go_wp2_with (first
      | (go_at_call 55
         go_must (refine (Take_any _ _ _ _ _ _ H.out).mono ?_)
         go_must (rintro e1 w1 ⟨v1, rfl, hn1⟩)
         go_must (rw [HT.out] at hn1 ⊢)
         go_must (dsimp only at hn1 ⊢)
         go_must (obtain ⟨A1, m1, c1, rfl⟩ := hn1.1.form')
         go_must (have K1 := Lib.hid (Kept.trans ((Kept.refl [] w).alloc _) hn1.2.1 (by simp)))
         go_must (have B := Lib.hid ((Blk.new w 71 #[.int .i64 0, .int .i64 0, .slice none 0 0]).kept hn1.2.1 (by simp)))
         go_must (clear hn1))
      | ((with_reducible show wpList _ _ _ ({ dst := none, op := Op.store 71 (.tmp 2) (.tmp 18), type := _, pos := _, after := _, guard := _ } :: _) _ _); refine wpList_put (t := 71) rfl 71 (.tmp 2) (.tmp 18) rfl _ (by rfl) (by rfl) (by exact B.out.alloc _) (by rfl) (by kernel_rfl) (by simp [Value.oneCell']) ?_; intro w9 hb9 hk9; have Hb9 := Lib.hid hb9; have Hk9 := Lib.hid hk9; clear hb9 hk9)
      | ((with_reducible show wpList _ _ _ ({ dst := none, op := Op.store 71 (.tmp 2) (.tmp 30), type := _, pos := _, after := _, guard := _ } :: _) _ _); refine wpList_put (t := 71) rfl 71 (.tmp 2) (.tmp 30) rfl _ (by rfl) (by rfl) (by exact B.out.alloc _) (by rfl) (by kernel_rfl) (by simp [Value.oneCell']) ?_; intro w9 hb9 hk9; have Hb9 := Lib.hid hb9; have Hk9 := Lib.hid hk9; clear hb9 hk9)
      | ((with_reducible show wpList _ _ _ ({ dst := none, op := Op.store 71 (.tmp 2) (.tmp 40), type := _, pos := _, after := _, guard := _ } :: _) _ _); refine wpList_put (t := 71) rfl 71 (.tmp 2) (.tmp 40) rfl _ (by rfl) (by rfl) (by exact B.out.alloc _) (by rfl) (by kernel_rfl) (by simp [Value.oneCell']) ?_; intro w9 hb9 hk9; have Hb9 := Lib.hid hb9; have Hk9 := Lib.hid hk9; clear hb9 hk9))
    refine bodyPost_ret (results_cell1 (t := 71) Tryd.results41 (by rfl) Hb9.out _ Tryd.underlying71 rfl (by kernel_rfl)) rfl ?_
    rw [HZ.out.1, HZ.out.2]
    exact ⟨_, rfl, LV.nil ((K1.out.alloc _).trans Hk9.out (fun i hi => .inr (by simp at hi; omega)))⟩

set_option maxHeartbeats 6400000 in
/-- a manifest's frame -/
theorem mDecode_ok (w : World) {G : List Nat} {A : Option Addr} {m c : Nat} {bs : List UInt8} (h : RdB w G (.slice A m c) bs) (hG : ∀ k ∈ G, k < w.heap.size)
    (d0 : (takeF bs).2.2 = 0) (d1 : ¬ (takeF bs).2.1 < bs.length) (d2 : (takeF bs).1.kind = 100) (d3 : verB (takeF bs).1.ver = true) :
    Calls Tryd.prog 41 #[.slice A m c] w (ManRet w bs) := by
  have H := Lib.hid (h.kept ((Kept.refl [] w).alloc (.cells #[.int .i64 0, .int .i64 0, .slice none 0 0] 71)) (by simp))
  have hcm := h.len.2.2.1
  have hmc := h.len.2.1
  rw [h.len.1] at d1
  unfold maxLen at hcm
  have hbl : (takeF bs).1.body.length ≤ 4096 := by
    obtain ⟨-, -, -, -, -, e, hl⟩ := takeF_ok d0
    rw [e]; simp only [List.length_take]; omega
  have hgood := decM_good d0 (by rw [h.len.1]; omega) d3
  obtain ⟨f, n, e, ht⟩ : ∃ f n e, takeF bs = (f, n, e) := ⟨_, _, _, rfl⟩
  obtain ⟨k0, v, body⟩ := f
  rw [ht] at hgood hbl d0 d1 d2 d3
  dsimp only at hgood hbl d0 d1 d2 d3
  subst d0 d2
  have d4 : 1 ≤ v := by simp [verB] at d3; omega
  have d5 : v ≤ 3 := by simp [verB] at d3; omega
  have HT := Lib.hid ht
  clear ht h d3
  unfold ManRet
  rw [goodM_end] at hgood
  obtain ⟨x, hx⟩ : ∃ x, (rdM 65 v body).1 = x := ⟨_, rfl⟩
  obtain ⟨o9, ho9⟩ : ∃ o, (rdM 65 v body).2 = o := ⟨_, rfl⟩
  obtain ⟨en, hen⟩ : ∃ en, endOf (o9.getD []) (erO o9) = en := ⟨_, rfl⟩
  rw [hx, ho9, hen] at hgood
  obtain ⟨nx, hnx⟩ : ∃ nx : Nat, gk (some body) 4 = nx := ⟨_, rfl⟩
  obtain ⟨o4, ho4⟩ : ∃ o, nk (some body) 4 = o := ⟨_, rfl⟩
  obtain ⟨n8, hn8⟩ : ∃ n, gk o4 2 = n := ⟨_, rfl⟩
  obtain ⟨o1, ho1⟩ : ∃ o, nk o4 2 = o := ⟨_, rfl⟩
  have hl8 := gk_lt o4 2
  have hln := gk_lt (some body) 4
  rw [hn8] at hl8
  rw [hnx] at hln
  obtain ⟨N, hN⟩ : ∃ N, min n8 65 = N := ⟨_, rfl⟩
  have hN65 : N ≤ 65 := by omega
  have hx2 : x = ⟨v, (nx : Nat), (rdU N o1).1⟩ ∧ o9 = (rdU N o1).2 := by
    rw [← hx, ← ho9]; unfold rdM; rw [hnx, ho4, hn8, ho1, hN]; exact ⟨rfl, rfl⟩
  have hwn : IntKind.i64.wrap (nx : Int) = (nx : Int) := IntWalk.i64_in _ (by omega)
  have EN := Lib.hid hnx
  have E4 := Lib.hid ho4
  have E8 := Lib.hid hn8
  have E1 := Lib.hid ho1
  have HX := Lib.hid hx2
  have HE := Lib.hid hen
  have HGD := Lib.hid hgood
  clear hx ho9 hen hgood hnx ho4 hn8 ho1 hx2
  have hq : n8 ≤ 65 ∨ 65 < n8 := by omega
  rcases hq with h17 | h17
  all_goals
    first
      | (have e8 : N = n8 := by omega
         subst e8
         have i17 : (N : Int) ≤ 65 := by omega)
      | (have i17 : (65 : Int) < n8 := by omega
         have hB := Lib.hid (show N = 65 by omega))
    clear hN h17
    go_enter Tryd.func41, Tryd.ntmps41
    go_upto_region 9 with (first
      | (go_at_call 55
         go_must (refine (Take_any _ _ _ _ _ _ H.out).mono ?_)
         go_must (rintro e1 w1 ⟨v1, rfl, hn1⟩)
         go_must (rw [HT.out] at hn1 ⊢)
         go_must (dsimp only at hn1 ⊢)
         go_must (obtain ⟨A1, m1, c1, rfl⟩ := hn1.1.form')
         go_must (have K1 := Lib.hid (Kept.trans ((Kept.refl [] w).alloc _) hn1.2.1 (by simp)))
         go_must (have B := Lib.hid ((Blk.new w 71 #[.int .i64 0, .int .i64 0, .slice none 0 0]).kept hn1.2.1 (by simp)))
         go_must (have V := Lib.hid (RdB.of_own hn1.1))
         go_must (have hB1 := B.out.lt)
         go_must (clear hn1))
      | (go_at_call 12
         go_must (have hV := V.out.kept ((Kept.refl [] w1).alloc (.cells #[.int .i64 100, .int .i64 v, .slice A1 m1 c1] 91)) (by simp))
         go_must (have hvl := hV.len)
         go_must (refine (NewReader_any _ A1 m1 c1 body hV.rd hvl.1 hvl.2.2.2 (by omega)).mono ?_)
         go_must (rintro e2 w3 ⟨b, G1, rfl, h1, k1, hb1, hG1⟩)
         go_must (have F := Lib.hid (Blk.kept (g := w1.heap.size) (t := 91) (cs := #[.int .i64 100, .int .i64 v, .slice A1 m1 c1]) (by (repeat (first | (apply Blk.new'; simp; done) | apply Blk.alloc | apply Blk.drew))) k1 (by simp)))
         go_must (have K3 := Lib.hid (Kept.trans (K1.out.alloc _) k1 (by simp)))
         go_must (have B := Lib.hid ((B.out.alloc _).kept k1 (by simp)))
         go_must (have hb1' : w1.heap.size < b := by simp at hb1; omega)
         go_must (have R : Hid (RWo w b (some body) w3) := Lib.hid ⟨G1, h1, by omega, fun k hk => (hG1 k hk).2, K3.out, by show body.length ≤ 1000000; omega⟩)
         go_must (have hbw := R.out.lt)
         go_must (have hcF := F.out.cell)
         go_must (clear h1 k1 hb1 hG1 hV hvl V)))
    go_cut [8] (fun p wx => ∃ g, p = .pointer (some ⟨g, 0, none⟩) ∧ Blk wx g 71 #[.int .i64 v, .int .i64 (nx : Nat), .slice none 0 0] ∧ Blk wx w.heap.size 71 #[.int .i64 0, .int .i64 0, .slice none 0 0] ∧ b < g ∧ RWo w b o4 wx)
    case first =>
      clear hln hl8 hcm hmc hG hbl d1 d4 d5 HT HX HE HGD H K3 K1
      go_region_held3 (fun w' => ∀ o, w'.cell? ⟨w1.heap.size, o, none⟩ = (#[.int .i64 100, .int .i64 v, .slice A1 m1 c1] : Array Value)[o]?) (exact Blk.cell (g := w1.heap.size) (t := 91) (by repeat (first | with_reducible exact F.out | with_reducible apply Blk.alloc | with_reducible apply Blk.drew | (with_reducible refine Blk.far ?_ (by simp <;> omega) _))))
        (first
         | (go_at_call 35
            with_reducible refine (DU32 (w := w3.drew) (R.out.go ((Kept.refl [] w3).drew))).mono ?_
            go_must (rintro e w4 ⟨rfl, h1, k1⟩)
            go_must (rw [EN.out])
            go_must (rw [E4.out] at h1)
            go_must (have hb2 := h1.lt)
            go_must (have kC := Kept.trans (Kept.trans (Kept.refl [b] w3) ((Kept.refl [] w3).drew) (by simp)) k1 (fun i hi => .inl hi))
            go_must (have B := Lib.hid (B.out.kept kC (by simp; omega)))
            go_must (have F := Lib.hid (F.out.kept kC (by simp; omega)))
            go_must (have hcF := F.out.cell)
            go_must (have R := Lib.hid h1)
            go_must (clear h1 k1 kC))
         | (go_at_call 35
            with_reducible refine (DU32 (w := (w3.alloc (.cells #[.int .i64 0, .int .i64 0, .slice none 0 0] 71)).drew) (R.out.go (((Kept.refl [] w3).alloc (.cells #[.int .i64 0, .int .i64 0, .slice none 0 0] 71)).drew))).mono ?_
            go_must (rintro e w4 ⟨rfl, h1, k1⟩)
            go_must (rw [EN.out])
            go_must (rw [E4.out] at h1)
            go_must (have hb2 := h1.lt)
            go_must (have kC := Kept.trans (Kept.trans (Kept.refl [b] w3) (((Kept.refl [] w3).alloc (.cells #[.int .i64 0, .int .i64 0, .slice none 0 0] 71)).drew) (by simp)) k1 (fun i hi => .inl hi))
            go_must (have M := Lib.hid (Blk.kept (g := w3.heap.size) (t := 71) (cs := #[.int .i64 0, .int .i64 0, .slice none 0 0]) (by (repeat (first | (apply Blk.new'; simp; done) | apply Blk.alloc | apply Blk.drew))) k1 (by simp; omega)))
            go_must (have hcM := M.out.cell)
            go_must (have hfM := M.out.frozen)
            go_must (have hsM := M.out.lt)
            go_must (have B := Lib.hid (B.out.kept kC (by simp; omega)))
            go_must (have F := Lib.hid (F.out.kept kC (by simp; omega)))
            go_must (have hcF := F.out.cell)
            go_must (have R := Lib.hid h1)
            go_must (clear h1 k1 kC)))
      all_goals
        go_wp2
        go_meet
        case rel =>
          first
            | (with_reducible exact ⟨_, rfl, Blk.new _ _ _, B.out.alloc _, hb2, R.out.go ((Kept.refl _ _).alloc _)⟩)
            | (have hk9 : Kept [w3.heap.size] w4 (w4.setCells w3.heap.size 0 [.int .i64 v, .int .i64 (nx : Nat), .slice none 0 0]) := Kept.setCells _ _ _ _ (Kept.refl _ _)
               exact ⟨w3.heap.size, rfl, M.out.whole #[.int .i64 v, .int .i64 (nx : Nat), .slice none 0 0] rfl, B.out.kept hk9 (by simp; omega), hbw, R.out.other hk9 (by simp; omega)⟩)
    case rest =>
      obtain ⟨g, rfl, hM, hB, hg, hR⟩ := hcut
      clear B F hcF R EN E4 hcm hmc hG hbl hln
      have hw1 : w.heap.size < b := by omega
      have M := Lib.hid hM
      have B := Lib.hid hB
      have R := Lib.hid hR
      have K := Lib.hid (Kept.refl [b] wc)
      have hgl := hM.lt
      clear hM hB hR
      go_wp2_with (first
        | (go_at_call 36
           go_must (refine (DU16 R.out).mono ?_)
           go_must (rintro e w5 ⟨rfl, h1, k1⟩)
           go_must (rw [E8.out]; rw [E1.out] at h1)
           go_must (have M := Lib.hid (M.out.kept k1 (by simp; omega)))
           go_must (have B := Lib.hid (B.out.kept k1 (by simp; omega)))
           go_must (have hs5 := k1.size)
           go_must (have hgl5 := M.out.lt)
           go_must (have R := Lib.hid h1)
           go_must (clear h1 k1)))
      go_loopg [53] N (fun gg i wr => ∃ k : Nat, k ≤ N ∧ gg = N - k ∧ i = .int .i64 k ∧ ∃ sl, Blk wr g 71 #[.int .i64 v, .int .i64 (nx : Nat), sl] ∧ IntO w w5 wr sl (rdU k o1).1 ∧ RWo w b (rdU k o1).2 wr ∧ Blk wr w.heap.size 71 #[.int .i64 0, .int .i64 0, .slice none 0 0] ∧ Kept [b, g] w5 wr)
      case atStart => exact ⟨0, by omega, by omega, rfl, _, M.out, IntO.nil R.out.kept, R.out, B.out, Kept.refl _ _⟩
      case round =>
        obtain ⟨k, hk, rfl, rfl, sl, hM, hS, hR, hB, hK⟩ := hrel
        clear M B R K
        have M := Lib.hid hM
        have S := Lib.hid hS
        have R := Lib.hid hR
        have B := Lib.hid hB
        have K := Lib.hid hK
        have hszr := hK.size
        have hgr := hM.lt
        clear hM hS hR hB hK
        obtain ⟨A0, m0, c0, rfl⟩ := S.out.form
        have hlen := Lib.hid (rdU_len o1 k)
        have hnx := Lib.hid (rdU_num o1 k)
        by_cases hlt : k < N
        · obtain ⟨lk, hlk⟩ : ∃ lk, (rdU k o1).1 = lk := ⟨_, rfl⟩
          obtain ⟨oq, hoq⟩ : ∃ oq, (rdU k o1).2 = oq := ⟨_, rfl⟩
          have hl4 := gk_lt oq 4
          obtain ⟨nq, hnq⟩ : ∃ nq, gk oq 4 = nq := ⟨_, rfl⟩
          obtain ⟨or, hor⟩ : ∃ or, nk oq 4 = or := ⟨_, rfl⟩
          rw [hnq] at hl4
          have S := Lib.hid (hlk ▸ S.out)
          have R := Lib.hid (hoq ▸ R.out)
          have hlen := hlen.out
          rw [hlk] at hlen
          have hnx := Lib.hid (show rdU (k + 1) o1 = (lk ++ [(nq : Int)], or) by rw [hnx.out, hlk, hoq, hnq, hor])
          have EQ := Lib.hid hnq
          have EO := Lib.hid hor
          clear hlk hoq hnq hor
          have hwq : IntKind.i64.wrap (nq : Int) = (nq : Int) := IntWalk.i64_in _ (by omega)
          have i0 : (0 : Int) ≤ (k : Int) := by omega
          first
            | (have i1 : (k : Int) < (65 : Int) := by have := hB.out; omega)
            | (have i1 : (k : Int) < (N : Int) := by omega)
          have hcM := M.out.cell
          have hfM := M.out.frozen
          have hrw := S.out.row
          go_wp2
          go_region_law ((first
            | (go_simp
               go_at_call 35
               go_must (with_reducible refine (DU32 (w := wr.drew) (R.out.go ((Kept.refl [] wr).drew))).mono ?_)
               go_must (rintro e w6 ⟨rfl, h1, k1⟩)
               go_must (rw [EQ.out])
               go_must (rw [EO.out] at h1)
               go_must (have kC := Kept.trans ((Kept.refl [b] wr).drew) k1 (fun i hi => .inl hi))
               go_must (have M := Lib.hid (M.out.kept kC (by simp; omega)))
               go_must (have hcM := M.out.cell)
               go_must (have hfM := M.out.frozen)
               go_must (have hgM := M.out.lt)
               go_must (have B := Lib.hid (B.out.kept kC (by simp; omega)))
               go_must (have S := Lib.hid (S.out.other kC (by simp; omega)))
               go_must (have K := Lib.hid (K.out.trans kC (by simp)))
               go_must (have R := Lib.hid h1)
               go_must (have hsz6 := K.out.size)
               go_must (clear h1 k1 kC))
            | (refine step_num (W0 := w5) (w0 := w6) (n := (nq : Int)) (g := w6.heap.size) rfl (.tmp 56) (.tmp 60) rfl rfl hsz6 (by omega) (by simp [Act.eval, Act.put]) S.out (by simp [Act.eval, Act.put]) (by omega) ?_
               intro A9 m9 c9 w9 h1 k1
               have M := Lib.hid (M.out.kept k1 (fun hm => by have := hrw _ hm; omega))
               have hcM := M.out.cell
               have hfM := M.out.frozen
               have hgM := M.out.lt
               have B := Lib.hid (B.out.kept k1 (fun hm => by have := hrw _ hm; omega))
               have R := Lib.hid (R.out.other k1 (fun k hk => by have := hrw k hk; omega))
               have K := Lib.hid (K.out.trans k1 (fun i hi => .inr (hrw i hi)))
               have S := Lib.hid h1
               clear h1 k1)))
          all_goals
            go_wp2
            go_roundg (N - (k + 1))
            case measure => omega
            case rel =>
              have kE : Kept [g] w9 (w9.setCell ⟨g, 2, none⟩ (.slice A9 m9 c9)) := (Kept.refl _ _).setCell (.inl (by simp)) _
              exact ⟨k + 1, by omega, rfl, by go_num, _, by simpa using M.out.set 2 (.slice A9 m9 c9), (S.out.other kE (by simp; omega)).cast (by rw [hnx.out]), by rw [hnx.out]; exact R.out.other kE (by simp; omega), B.out.kept kE (by simp; omega), K.out.trans kE (by simp)⟩
        · obtain rfl : k = N := by omega
          first
            | (have i1 : ¬ (k : Int) < (65 : Int) := by have := hB.out; omega)
            | (have i1 : ¬ (k : Int) < (k : Int) := by omega)
          have R := Lib.hid (show RWo w b o9 wr by rw [HX.out.2]; exact R.out)
          have S := Lib.hid (show IntO w w5 wr (.slice A0 m0 c0) x.segs by rw [HX.out.1]; exact S.out)
          have M := Lib.hid (show Blk wr g 71 #[.int .i64 x.ver, .int .i64 x.next, .slice A0 m0 c0] by rw [HX.out.1]; exact M.out)
          have hcM := M.out.cell
          have kR := Lib.hid R.out.kept
          have hways : (en ≠ 0) ∨ (en = 0 ∧ mayM x = false) ∨ (en = 0 ∧ mayM x = true) := by
            by_cases h : en = 0
            · cases mayM x <;> simp [h]
            · exact .inl h
          rcases hways with d2 | ⟨d2, d3⟩ | ⟨d2, d3⟩
          all_goals
            first
              | (have b2 : (en == 0) = false := by simpa using d2
                 have c2 : (en != 0) = true := by simpa using d2)
              | subst d2
            first
              | (have HZ := Lib.hid (HGD.out.1 (by rw [decide_eq_false d2]; rfl)))
              | (have HZ := Lib.hid (HGD.out.1 (by rw [d3, Bool.and_false])))
              | (have HZ := Lib.hid (HGD.out.2 (by rw [d3]; rfl)))
            clear HGD
            go_wp2_with (first
              | (go_at_call 25
                 go_must (refine (DEnd R.out).mono ?_)
                 go_must (rintro e w' ⟨rfl, rfl⟩)
                 go_must (rw [HE.out]))
              | (go_at_call 53
                 go_must (obtain ⟨G2, hsm⟩ := IntO.small S.out.lv)
                 go_must (refine (mMay_any _ x hsm).mono ?_)
                 go_must (rintro e w6 ⟨rfl, k1⟩)
                 go_must (rw [d3])
                 go_must (have M := Lib.hid (M.out.kept k1 (by simp)))
                 go_must (have hcM := M.out.cell)
                 go_must (have B := Lib.hid (B.out.kept k1 (by simp)))
                 go_must (have S := Lib.hid (S.out.go k1))
                 go_must (have kR := Lib.hid (kR.out.trans k1 (by simp)))
                 go_must (clear k1 hsm))
              | ((with_reducible show wpList _ _ _ ({ dst := none, op := Op.store 71 (.tmp 2) (.tmp 72), type := _, pos := _, after := _, guard := _ } :: _) _ _); refine wpList_put (t := 71) rfl 71 (.tmp 2) (.tmp 72) rfl _ (by rfl) (by rfl) (by exact B.out) (by rfl) (by kernel_rfl) (by simp [Value.oneCell']) ?_; intro w9 hb9 hk9; have Hb9 := Lib.hid hb9; have Hk9 := Lib.hid hk9; clear hb9 hk9)
              | ((with_reducible show wpList _ _ _ ({ dst := none, op := Op.store 71 (.tmp 2) (.tmp 73), type := _, pos := _, after := _, guard := _ } :: _) _ _); refine wpList_put (t := 71) rfl 71 (.tmp 2) (.tmp 73) rfl _ (by rfl) (by rfl) (by exact B.out) (by rfl) (by kernel_rfl) (by simp [Value.oneCell']) ?_; intro w9 hb9 hk9; have Hb9 := Lib.hid hb9; have Hk9 := Lib.hid hk9; clear hb9 hk9))
            refine bodyPost_ret (results_cell1 (t := 71) Tryd.results41 (by rfl) Hb9.out _ Tryd.underlying71 rfl (by kernel_rfl)) rfl ?_
            rw [HZ.out.1, HZ.out.2]
            first
              | (with_reducible exact ⟨_, rfl, (S.out.other Hk9.out (by simp; omega)).lv⟩)
              | exact ⟨_, rfl, LV.nil (kR.out.trans Hk9.out (fun i hi => .inr (by simp at hi; omega)))⟩
end Go.Proofs.YtflbeipnnmeiaaaDoor
