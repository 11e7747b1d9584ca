/-
  gens.Without with the law's own closure. (GensForms)
-/
import Derived.Test.YtgndijdhmkphaaaGreatDoorFrameA
import Derived.Test.YtgndijdhmkphaaaGreatDoorGenR
namespace Go.Proofs.YtgndijdhmkphaaaGreatDoor
set_option linter.unusedVariables false
section
open Go.RowKit Go.ChangeShapes Go.WideShapes Go.ChangeAt Go.Deep
set_option maxRecDepth 100000
set_option maxHeartbeats 1600000 in
theorem goneClo_any (w : World) (n : Int) (outs : List Int) (ox : Nat) {G : List Nat} {A : Option Addr} {m c : Nat} (ho : w.cell? ⟨ox, 0, none⟩ = some (.slice A m c)) (h : IntArr w G (.slice A m c) outs) :
    Calls Tryz.prog 10 #[.int .i64 n, .pointer (some ⟨ox, 0, none⟩)] w fun e w' => e = .returned (.bool (decide (n ∈ outs))) ∧ Kept [] w w' := by
  have hlen : outs.length = m ∧ m ≤ c ∧ c ≤ maxLen := by
    obtain ⟨A', m', c', e, h1, h2, h3, _⟩ := h
    injection e with e1 e2 e3
    subst e1 e2 e3
    exact ⟨h1, h2, h3⟩
  obtain ⟨a1, a2, a3⟩ := hlen
  unfold maxLen at a3
  have H := Lib.hid h
  have A1 := Lib.hid a1
  clear h a1
  go_enter Tryz.func10, Tryz.ntmps10
  go_wp2
  clear ho
  go_loopg [8] m (fun g i wr => ∃ k : Nat, k ≤ m ∧ g = m - k ∧ i = .int .i64 k ∧ Hid (n ∉ outs.take k) ∧ wr = w)
  case atStart => exact ⟨0, by omega, by omega, rfl, Lib.hid (by simp), rfl⟩
  case round =>
    obtain ⟨k, hk, rfl, rfl, hno, rfl⟩ := hrel
    by_cases hlt : k < m
    · have hkl : k < outs.length := by rw [A1.out]; exact hlt
      have hat := H.out.at hkl
      have hget : outs[k]? = some (outs[k]'hkl) := List.getElem?_eq_getElem hkl
      generalize outs[k]'hkl = b at *
      have HG := Lib.hid hget
      clear hkl hget
      obtain ⟨g, o, rfl, hg, -, c0, -, -⟩ := hat
      have i0 : (0 : Int) ≤ (k : Int) := by omega
      have i1 : (k : Int) < (m : Int) := by omega
      by_cases hb : b = n
      · subst hb
        have HR := Lib.hid (show decide (b ∈ outs) = true from decide_eq_true (List.mem_of_getElem? HG.out))
        go_wp2
        go_ret
        exact ⟨by rw [HR.out]; rfl, Kept.refl _ _⟩
      · have e1 : (b == n) = false := by simpa using hb
        have HS := Lib.hid (show n ∉ outs.take (k + 1) from by
          rw [List.take_add_one, HG.out]
          simp only [Option.toList, List.mem_append, List.mem_singleton, not_or]
          exact ⟨hno.out, fun e => hb e.symm⟩)
        clear hb
        go_wp2
        go_roundg (m - (k + 1))
        case measure => omega
        case rel => exact ⟨k + 1, by omega, rfl, by go_num, Lib.hid HS.out, rfl⟩
    · obtain rfl : k = m := by omega
      have HR := Lib.hid (show decide (n ∈ outs) = false from by
        have h1 := hno.out
        rw [List.take_of_length_le (by rw [A1.out]; exact Nat.le_refl _)] at h1
        exact decide_eq_false h1)
      go_wp2
      go_ret
      exact ⟨by rw [HR.out]; rfl, Kept.refl _ _⟩
theorem equalIn_func1 (w : World) (d : Nat) (f : Fn) (a c : Array Value) : (Op.equalIn (d + 1) 33 (.func f a c) .nilFunc).run Tryz.prog w = .ok false w := by
  have h := Tryz.underlying33
  simp [Op.equalIn, run_underlying h]
theorem neq_func1 (w : World) (f : Fn) (a c : Array Value) : (binOp .neq 33 (.func f a c) .nilFunc).run Tryz.prog w = .ok (.bool true) w := by
  simp only [binOp]
  simp [Op.equal, Op.maxDepth, equalIn_func1 w 9999 f a c]
set_option maxHeartbeats 800000 in
theorem withGone_any (w : World) (b : BackD) (outs : List Int) (bx ox : Nat) {G : List Nat} {A : Option Addr} {m c : Nat} (hb : w.cell? ⟨bx, 0, none⟩ = some (.func (.func 10) #[] #[.pointer (some ⟨ox, 0, none⟩)])) (ho : w.cell? ⟨ox, 0, none⟩ = some (.slice A m c)) (h : IntArr w G (.slice A m c) outs) :
    Calls Tryz.prog 41 #[.agg #[.int .i64 b.id, .int .u32 (b.addr.toNat : Nat), .int .i64 b.weight], .pointer (some ⟨bx, 0, none⟩)] w fun e w' => e = .returned (.bool (decide (b.id ∈ outs))) ∧ Kept [] w w' := by
  have hlt : bx < w.heap.size := World.block_lt_of_cell? w ⟨bx, 0, none⟩ hb
  have hlo : ox < w.heap.size := World.block_lt_of_cell? w ⟨ox, 0, none⟩ ho
  have hb' : (w.alloc (.cells #[.int .i64 b.id, .int .u32 (b.addr.toNat : Nat), .int .i64 b.weight] 27)).cell? ⟨bx, 0, none⟩ = some (.func (.func 10) #[] #[.pointer (some ⟨ox, 0, none⟩)]) := (World.cell?_alloc_lt w _ ⟨bx, 0, none⟩ hlt).trans hb
  have ho' : (w.alloc (.cells #[.int .i64 b.id, .int .u32 (b.addr.toNat : Nat), .int .i64 b.weight] 27)).cell? ⟨ox, 0, none⟩ = some (.slice A m c) := (World.cell?_alloc_lt w _ ⟨ox, 0, none⟩ hlo).trans ho
  have HO := Lib.hid ho'
  have K := Lib.hid ((Kept.refl [] w).alloc (.cells #[.int .i64 b.id, .int .u32 (b.addr.toNat : Nat), .int .i64 b.weight] 27))
  have HA := Lib.hid (IntArr.kept h K.out (by simp))
  have hnf := neq_func1
  clear ho ho' hb h
  go_enter Tryz.func41, Tryz.ntmps41
  go_wp2_with (go_at_call 10; refine (goneClo_any _ _ outs ox HO.out HA.out).mono ?_; rintro e w2 ⟨rfl, k2⟩; have K2 := Lib.hid (K.out.trans k2 (by simp)); clear k2)
  go_ret
  exact ⟨rfl, K2.out⟩
set_option maxHeartbeats 1600000 in
theorem gWithoutG_any (w : World) {G : List Nat} {A : Option Addr} {m c : Nat} (l : List BackD) (h : BkArr w G (.slice A m c) l) (hG : ∀ k ∈ G, k < w.heap.size) (hm : m ≤ 100000) (outs : List Int) (ox : Nat) {G2 : List Nat} {A2 : Option Addr} {m2 c2 : Nat} (ho : w.cell? ⟨ox, 0, none⟩ = some (.slice A2 m2 c2)) (h2 : IntArr w G2 (.slice A2 m2 c2) outs) (hG2 : ∀ k ∈ G2, k < w.heap.size) :
    Calls Tryz.prog 15 #[.slice A m c, .func (.func 10) #[] #[.pointer (some ⟨ox, 0, none⟩)]] w fun e w' => ∃ v, e = .returned v ∧ BkV w w' v (l.filter fun b => !decide (b.id ∈ outs)) := by
  have hlen := h.len
  have hlo : ox < w.heap.size := World.block_lt_of_cell? w ⟨ox, 0, none⟩ ho
  obtain ⟨bo, hbo⟩ : ∃ bo : Obj, bo = .cells #[.func (.func 10) #[] #[.pointer (some ⟨ox, 0, none⟩)]] 33 := ⟨_, rfl⟩
  have K0 := Lib.hid ((Kept.refl [] w).alloc bo)
  have B0 := Lib.hid (show Blk (w.alloc bo) w.heap.size 33 #[.func (.func 10) #[] #[.pointer (some ⟨ox, 0, none⟩)]] by rw [hbo]; exact Blk.new _ _ _)
  have O0 := Lib.hid ((World.cell?_alloc_lt w bo ⟨ox, 0, none⟩ hlo).trans ho)
  have HI2 := Lib.hid (IntArr.kept h2 K0.out (by simp))
  have HG2 := Lib.hid hG2
  have HC := Lib.hid (CloneB_any (w.alloc bo) l (BkArr.kept h K0.out (by simp)) (fun k hk => Nat.lt_of_lt_of_le (hG k hk) K0.out.size) (by omega))
  have LM := Lib.hid hlen.1
  have HB := Lib.hid hbo
  have HCL := Lib.hid (fun (w' : World) (S : List Nat) (hk : Kept S (w.alloc bo) w') (h1 : w.heap.size ∉ S) (h2 : ox ∉ S) (h3 : ∀ k ∈ G2, k ∉ S) (b : BackD) => withGone_any w' b outs w.heap.size ox
    ((hk.cell (p := ⟨w.heap.size, 0, none⟩) B0.out.lt h1).trans (B0.out.cell 0)) ((hk.cell (p := ⟨ox, 0, none⟩) (by have := K0.out.size; show ox < _; omega) h2).trans O0.out) (IntArr.kept HI2.out hk h3))
  have HSZ : Hid ((w.alloc bo).heap.size = w.heap.size + 1) := Lib.hid (by simp)
  subst hbo
  clear h hlen ho HB h2 hG2
  go_enter Tryz.func15, Tryz.ntmps15
  go_wp2_with (first
    | (go_at_call 33
       go_must (refine HC.out.mono ?_)
       go_must (rintro e w1 ⟨v, rfl, hv⟩)
       go_must (have V := Lib.hid hv)
       go_must (clear hv)))
  have KV := Lib.hid (LV.kept V.out)
  rcases BkV.row V.out with ⟨rfl, hl0⟩ | ⟨g, cap, rfl, hr, hg⟩
  · subst hl0
    clear V
    go_wp2_with (first
      | (go_at_call 40
         go_must (refine (Delete_nil _ _).mono ?_)
         go_must (rintro e w2 ⟨rfl, k2⟩)
         go_must (have K := Lib.hid ((K0.out.trans KV.out (by simp)).trans k2 (by simp)))
         go_must (clear k2)))
    go_ret
    exact ⟨_, rfl, LV.nil K.out⟩
  · have HG := Lib.hid hg
    have hgs : w.heap.size + 1 ≤ g := by have := HSZ.out; omega
    have HD := Lib.hid (Delete_row w1 g cap l.length l hr rfl (by rw [LM.out]; exact hm) (.pointer (some ⟨w.heap.size, 0, none⟩)) (fun b => decide (b.id ∈ outs)) (fun w' b hk => HCL.out w' [g] ((KV.out.mono (T := [g]) (by simp)).trans hk (fun i hi => .inl hi)) (by simp; omega) (by simp; omega) (fun k hk2 => by have := HG2.out k hk2; simp; omega) b))
    clear V hr hg
    go_wp2_with (first
      | (go_at_call 40
         go_must (refine HD.out.mono ?_)
         go_must (rintro e w2 ⟨rfl, r2, k2⟩)
         go_must (have R := Lib.hid r2)
         go_must (have K := Lib.hid ((K0.out.trans KV.out (by simp)).trans k2 (fun i hi => .inr (by simp at hi; omega))))
         go_must (clear k2 r2)))
    go_ret
    exact ⟨_, rfl, RowB.bkv R.out (by omega) K.out⟩
theorem equalIn_nil1 (w : World) (d : Nat) : (Op.equalIn (d + 1) 33 .nilFunc .nilFunc).run Tryz.prog w = .ok true w := by
  have h := Tryz.underlying33
  simp [Op.equalIn, run_underlying h]
theorem neq_func0 (w : World) : (binOp .neq 33 .nilFunc .nilFunc).run Tryz.prog w = .ok (.bool false) w := by
  simp only [binOp]
  simp [Op.equal, Op.maxDepth, equalIn_nil1 w 9999]
set_option maxHeartbeats 800000 in
theorem withNil_any (w : World) (b : BackD) (bx : Nat) (hb : w.cell? ⟨bx, 0, none⟩ = some .nilFunc) :
    Calls Tryz.prog 41 #[.agg #[.int .i64 b.id, .int .u32 (b.addr.toNat : Nat), .int .i64 b.weight], .pointer (some ⟨bx, 0, none⟩)] w fun e w' => e = .returned (.bool false) ∧ Kept [] w w' := by
  have hlt : bx < w.heap.size := World.block_lt_of_cell? w ⟨bx, 0, none⟩ hb
  have hb' : (w.alloc (.cells #[.int .i64 b.id, .int .u32 (b.addr.toNat : Nat), .int .i64 b.weight] 27)).cell? ⟨bx, 0, none⟩ = some .nilFunc := (World.cell?_alloc_lt w _ ⟨bx, 0, none⟩ hlt).trans hb
  have K := Lib.hid ((Kept.refl [] w).alloc (.cells #[.int .i64 b.id, .int .u32 (b.addr.toNat : Nat), .int .i64 b.weight] 27))
  have hnf := neq_func0
  clear hb
  go_enter Tryz.func41, Tryz.ntmps41
  go_wp2
  go_ret
  exact ⟨rfl, K.out⟩
set_option maxHeartbeats 1600000 in
theorem gWithoutN_any (w : World) {G : List Nat} {A : Option Addr} {m c : Nat} (l : List BackD) (h : BkArr w G (.slice A m c) l) (hG : ∀ k ∈ G, k < w.heap.size) (hm : m ≤ 100000) :
    Calls Tryz.prog 15 #[.slice A m c, .nilFunc] w fun e w' => ∃ v, e = .returned v ∧ BkV w w' v l := by
  have hlen := h.len
  obtain ⟨bo, hbo⟩ : ∃ bo : Obj, bo = .cells #[.nilFunc] 33 := ⟨_, rfl⟩
  have K0 := Lib.hid ((Kept.refl [] w).alloc bo)
  have B0 := Lib.hid (show Blk (w.alloc bo) w.heap.size 33 #[.nilFunc] by rw [hbo]; exact Blk.new _ _ _)
  have HC := Lib.hid (CloneB_any (w.alloc bo) l (BkArr.kept h K0.out (by simp)) (fun k hk => Nat.lt_of_lt_of_le (hG k hk) K0.out.size) (by omega))
  have LM := Lib.hid hlen.1
  have HB := Lib.hid hbo
  have HCL := Lib.hid (fun (w' : World) (S : List Nat) (hk : Kept S (w.alloc bo) w') (h1 : w.heap.size ∉ S) (b : BackD) => withNil_any w' b w.heap.size ((hk.cell (p := ⟨w.heap.size, 0, none⟩) B0.out.lt h1).trans (B0.out.cell 0)))
  have HFL := Lib.hid (show l.filter (fun _ => !false) = l from List.filter_eq_self.2 (by simp))
  have HSZ : Hid ((w.alloc bo).heap.size = w.heap.size + 1) := Lib.hid (by simp)
  subst hbo
  clear h hlen HB
  go_enter Tryz.func15, Tryz.ntmps15
  go_wp2_with (first
    | (go_at_call 33
       go_must (refine HC.out.mono ?_)
       go_must (rintro e w1 ⟨v, rfl, hv⟩)
       go_must (have V := Lib.hid hv)
       go_must (clear hv)))
  have KV := Lib.hid (LV.kept V.out)
  rcases BkV.row V.out with ⟨rfl, hl0⟩ | ⟨g, cap, rfl, hr, hg⟩
  · subst hl0
    clear V
    go_wp2_with (first
      | (go_at_call 40
         go_must (refine (Delete_nil _ _).mono ?_)
         go_must (rintro e w2 ⟨rfl, k2⟩)
         go_must (have K := Lib.hid ((K0.out.trans KV.out (by simp)).trans k2 (by simp)))
         go_must (clear k2)))
    go_ret
    exact ⟨_, rfl, LV.nil K.out⟩
  · have HG := Lib.hid hg
    have hgs : w.heap.size + 1 ≤ g := by have := HSZ.out; omega
    have HD := Lib.hid (Delete_row w1 g cap l.length l hr rfl (by rw [LM.out]; exact hm) (.pointer (some ⟨w.heap.size, 0, none⟩)) (fun _ => false) (fun w' b hk => HCL.out w' [g] ((KV.out.mono (T := [g]) (by simp)).trans hk (fun i hi => .inl hi)) (by simp; omega) b))
    clear V hr hg
    go_wp2_with (first
      | (go_at_call 40
         go_must (refine HD.out.mono ?_)
         go_must (rintro e w2 ⟨rfl, r2, k2⟩)
         go_must (rw [HFL.out] at r2 ⊢)
         go_must (have R := Lib.hid r2)
         go_must (have K := Lib.hid ((K0.out.trans KV.out (by simp)).trans k2 (fun i hi => .inr (by simp at hi; omega))))
         go_must (clear k2 r2)))
    go_ret
    exact ⟨_, rfl, RowB.bkv R.out (by omega) K.out⟩
end
end Go.Proofs.YtgndijdhmkphaaaGreatDoor
