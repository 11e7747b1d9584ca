
/-
  The contract of tuple.Less; tuples are in an order.
-/
import Derived.Test.YtdabbkkjmmbigaaGreatRecA
import Derived.Test.YtdabbkkjmmbigaaGreatRecB
import Derived.Test.YtdabbkkjmmbigaaGreatBlk
import Derived.WalkLawsBesides
import Derived.Deep.RegionHeld3
namespace Go.Proofs.YtdabbkkjmmbigaaGreat
open Go.RowKit Go.ChangeShapes Go.WideShapes Go.ChangeAt Go.Deep
set_option linter.unusedVariables false

/-- one of two numbers ahead of the other -/
def cmpI (a b : Int) : Int := if a < b then -1 else if b < a then 1 else 0
theorem isNaN32 (w : World) (n : Int) : Calls Tryz.prog 72 #[.int .u32 n] w fun e w' => e = .returned (.bool false) ∧ w = w' := by
  go_enter Tryz.func72, Tryz.ntmps72
  go_wp2
  go_ret
  exact ⟨rfl, rfl⟩
theorem isNaN64 (w : World) (n : Int) : Calls Tryz.prog 73 #[.int .i64 n] w fun e w' => e = .returned (.bool false) ∧ w = w' := by
  go_enter Tryz.func73, Tryz.ntmps73
  go_wp2
  go_ret
  exact ⟨rfl, rfl⟩
theorem cmp32 (w : World) (a b : Int) : Calls Tryz.prog 49 #[.int .u32 a, .int .u32 b] w fun e w' => e = .returned (.int .i64 (cmpI a b)) ∧ w = w' := by
  have hw : a < b ∨ (¬ a < b ∧ b < a) ∨ (¬ a < b ∧ ¬ b < a) := by omega
  rcases hw with h | ⟨h, h'⟩ | ⟨h, h'⟩
  · have e := Lib.hid (show cmpI a b = -1 by unfold cmpI; rw [if_pos h])
    go_enter Tryz.func49, Tryz.ntmps49
    go_wp2_with (go_at_call 72; refine (isNaN32 _ _).mono ?_; rintro e w' ⟨rfl, rfl⟩)
    go_ret
    exact ⟨by rw [e.out]; rfl, rfl⟩
  · have e := Lib.hid (show cmpI a b = 1 by unfold cmpI; rw [if_neg h, if_pos h'])
    go_enter Tryz.func49, Tryz.ntmps49
    go_wp2_with (go_at_call 72; refine (isNaN32 _ _).mono ?_; rintro e w' ⟨rfl, rfl⟩)
    go_ret
    exact ⟨by rw [e.out]; rfl, rfl⟩
  · have e := Lib.hid (show cmpI a b = 0 by unfold cmpI; rw [if_neg h, if_neg h'])
    go_enter Tryz.func49, Tryz.ntmps49
    go_wp2_with (go_at_call 72; refine (isNaN32 _ _).mono ?_; rintro e w' ⟨rfl, rfl⟩)
    go_ret
    exact ⟨by rw [e.out]; rfl, rfl⟩
theorem cmp64 (w : World) (a b : Int) : Calls Tryz.prog 50 #[.int .i64 a, .int .i64 b] w fun e w' => e = .returned (.int .i64 (cmpI a b)) ∧ w = w' := by
  have hw : a < b ∨ (¬ a < b ∧ b < a) ∨ (¬ a < b ∧ ¬ b < a) := by omega
  rcases hw with h | ⟨h, h'⟩ | ⟨h, h'⟩
  · have e := Lib.hid (show cmpI a b = -1 by unfold cmpI; rw [if_pos h])
    go_enter Tryz.func50, Tryz.ntmps50
    go_wp2_with (go_at_call 73; refine (isNaN64 _ _).mono ?_; rintro e w' ⟨rfl, rfl⟩)
    go_ret
    exact ⟨by rw [e.out]; rfl, rfl⟩
  · have e := Lib.hid (show cmpI a b = 1 by unfold cmpI; rw [if_neg h, if_pos h'])
    go_enter Tryz.func50, Tryz.ntmps50
    go_wp2_with (go_at_call 73; refine (isNaN64 _ _).mono ?_; rintro e w' ⟨rfl, rfl⟩)
    go_ret
    exact ⟨by rw [e.out]; rfl, rfl⟩
  · have e := Lib.hid (show cmpI a b = 0 by unfold cmpI; rw [if_neg h, if_neg h'])
    go_enter Tryz.func50, Tryz.ntmps50
    go_wp2_with (go_at_call 73; refine (isNaN64 _ _).mono ?_; rintro e w' ⟨rfl, rfl⟩)
    go_ret
    exact ⟨by rw [e.out]; rfl, rfl⟩
def orI : List Int → Int
  | [] => 0
  | a :: l => if a ≠ 0 then a else orI l
theorem orI_drop {l : List Int} {k : Nat} (h : k < l.length) : orI (l.drop k) = if l[k] ≠ 0 then l[k] else orI (l.drop (k + 1)) := by
  rw [← List.getElem_cons_drop (h := h)]; rfl
set_option maxHeartbeats 1600000 in
theorem Or_any (w : World) (g : Nat) (l : List Int) (n : Nat) (hl : l.length = n) (hn : n ≤ 100) (hc : ∀ (j : Nat) (h : j < l.length), w.cell? ⟨g, j, none⟩ = some (.int .i64 l[j])) :
    Calls Tryz.prog 48 #[.slice (some ⟨g, 0, none⟩) n n] w fun e w' => e = .returned (.int .i64 (orI l)) ∧ w = w' := by
  have HC := Lib.hid hc
  have HL := Lib.hid hl
  clear hc hl
  go_enter Tryz.func48, Tryz.ntmps48
  go_wp2
  go_loopg [8] n (fun gg i wr => ∃ k : Nat, k ≤ n ∧ gg = n - k ∧ i = .int .i64 k ∧ orI (l.drop k) = orI l ∧ wr = w)
  case atStart => exact ⟨0, by omega, by omega, rfl, by simp, rfl⟩
  case round =>
    obtain ⟨k, hk, rfl, rfl, ho, rfl⟩ := hrel
    have HO := Lib.hid ho
    clear ho
    by_cases hlt : k < n
    · have hkl : k < l.length := by have := HL.out; omega
      have hck := HC.out k hkl
      have hd := orI_drop hkl
      obtain ⟨x, hx⟩ : ∃ x, l[k] = x := ⟨_, rfl⟩
      rw [hx] at hck hd
      have i1 : (k : Int) < (n : Int) := by omega
      by_cases hx0 : x = 0
      · subst hx0
        have HD := Lib.hid (show orI (l.drop (k + 1)) = orI l by rw [← HO.out, hd]; simp)
        clear hd hx
        go_wp2
        go_roundg (n - (k + 1))
        case measure => omega
        case rel => exact ⟨k + 1, by omega, rfl, by go_num, HD.out, rfl⟩
      · have HD := Lib.hid (show orI l = x by rw [← HO.out, hd, if_pos hx0])
        have b1 : (x == 0) = false := by simpa using hx0
        have b2 : (x != 0) = true := by simpa using hx0
        clear hd hx hx0
        go_wp2
        go_ret
        exact ⟨by rw [HD.out]; rfl, rfl⟩
    · obtain rfl : k = n := by omega
      have HD := Lib.hid (show orI l = 0 by rw [← HO.out, List.drop_of_length_le (by rw [HL.out]; omega)]; rfl)
      have i1 : ¬ (k : Int) < (k : Int) := by omega
      go_wp2
      go_ret
      exact ⟨by rw [HD.out]; rfl, rfl⟩
theorem cells5 (w : World) (c1 c2 c3 c4 c5 : Int) : ∀ (j : Nat) (h : j < [c1, c2, c3, c4, c5].length), (w.alloc (.cells #[.int .i64 c1, .int .i64 c2, .int .i64 c3, .int .i64 c4, .int .i64 c5] 3)).cell? ⟨w.heap.size, j, none⟩ = some (.int .i64 [c1, c2, c3, c4, c5][j]) := by
  intro j hj
  rw [(Blk.new w 3 #[.int .i64 c1, .int .i64 c2, .int .i64 c3, .int .i64 c4, .int .i64 c5]).cell j]
  match j, hj with
  | 0, _ => rfl
  | 1, _ => rfl
  | 2, _ => rfl
  | 3, _ => rfl
  | 4, _ => rfl
  | j + 5, h => exact absurd h (by simp only [List.length_cons, List.length_nil]; omega)
def cmpsT (a b : TupD) : List Int := [cmpI (a.src.toNat : Nat) (b.src.toNat : Nat), cmpI (a.dst.toNat : Nat) (b.dst.toNat : Nat), cmpI a.proto b.proto, cmpI a.sport b.sport, cmpI a.dport b.dport]
def lessT (a b : TupD) : Bool := decide (orI (cmpsT a b) < 0)
set_option maxHeartbeats 3200000 in
theorem Less_any (w : World) (a b : TupD) : Calls Tryz.prog 29 #[.agg #[.int .u32 (a.src.toNat : Nat), .int .u32 (a.dst.toNat : Nat), .int .i64 a.proto, .int .i64 a.sport, .int .i64 a.dport], .agg #[.int .u32 (b.src.toNat : Nat), .int .u32 (b.dst.toNat : Nat), .int .i64 b.proto, .int .i64 b.sport, .int .i64 b.dport]] w fun e w' => e = .returned (.bool (lessT a b)) ∧ Kept [] w w' := by
  have P := Lib.hid (show Blk ((w.alloc (.cells #[.int .u32 (a.src.toNat : Nat), .int .u32 (a.dst.toNat : Nat), .int .i64 a.proto, .int .i64 a.sport, .int .i64 a.dport] 40)).alloc (.cells #[.int .u32 (b.src.toNat : Nat), .int .u32 (b.dst.toNat : Nat), .int .i64 b.proto, .int .i64 b.sport, .int .i64 b.dport] 40)) w.heap.size 40 #[.int .u32 (a.src.toNat : Nat), .int .u32 (a.dst.toNat : Nat), .int .i64 a.proto, .int .i64 a.sport, .int .i64 a.dport] from by (repeat (first | (apply Blk.new'; simp; done) | apply Blk.alloc | apply Blk.drew)))
  have Q := Lib.hid (show Blk ((w.alloc (.cells #[.int .u32 (a.src.toNat : Nat), .int .u32 (a.dst.toNat : Nat), .int .i64 a.proto, .int .i64 a.sport, .int .i64 a.dport] 40)).alloc (.cells #[.int .u32 (b.src.toNat : Nat), .int .u32 (b.dst.toNat : Nat), .int .i64 b.proto, .int .i64 b.sport, .int .i64 b.dport] 40)) (w.heap.size + 1) 40 #[.int .u32 (b.src.toNat : Nat), .int .u32 (b.dst.toNat : Nat), .int .i64 b.proto, .int .i64 b.sport, .int .i64 b.dport] from by (repeat (first | (apply Blk.new'; simp; done) | apply Blk.alloc | apply Blk.drew)))
  have K := Lib.hid (show Kept [] w ((w.alloc (.cells #[.int .u32 (a.src.toNat : Nat), .int .u32 (a.dst.toNat : Nat), .int .i64 a.proto, .int .i64 a.sport, .int .i64 a.dport] 40)).alloc (.cells #[.int .u32 (b.src.toNat : Nat), .int .u32 (b.dst.toNat : Nat), .int .i64 b.proto, .int .i64 b.sport, .int .i64 b.dport] 40)) from by (repeat (first | exact Kept.refl _ _ | apply Kept.alloc | apply Kept.drew)))
  obtain ⟨c1, h1⟩ : ∃ c, cmpI (a.src.toNat : Nat) (b.src.toNat : Nat) = c := ⟨_, rfl⟩
  obtain ⟨c2, h2⟩ : ∃ c, cmpI (a.dst.toNat : Nat) (b.dst.toNat : Nat) = c := ⟨_, rfl⟩
  obtain ⟨c3, h3⟩ : ∃ c, cmpI a.proto b.proto = c := ⟨_, rfl⟩
  obtain ⟨c4, h4⟩ : ∃ c, cmpI a.sport b.sport = c := ⟨_, rfl⟩
  obtain ⟨c5, h5⟩ : ∃ c, cmpI a.dport b.dport = c := ⟨_, rfl⟩
  have HLS := Lib.hid (show lessT a b = decide (orI [c1, c2, c3, c4, c5] < 0) by unfold lessT cmpsT; rw [h1, h2, h3, h4, h5])
  obtain ⟨r, hr⟩ : ∃ r, orI [c1, c2, c3, c4, c5] = r := ⟨_, rfl⟩
  have E1 := Lib.hid h1
  have E2 := Lib.hid h2
  have E3 := Lib.hid h3
  have E4 := Lib.hid h4
  have E5 := Lib.hid h5
  have HR := Lib.hid hr
  clear h1 h2 h3 h4 h5 hr
  go_enter Tryz.func29, Tryz.ntmps29
  go_wp2
  generalize ((w.alloc (.cells #[.int .u32 (a.src.toNat : Nat), .int .u32 (a.dst.toNat : Nat), .int .i64 a.proto, .int .i64 a.sport, .int .i64 a.dport] 40)).alloc (.cells #[.int .u32 (b.src.toNat : Nat), .int .u32 (b.dst.toNat : Nat), .int .i64 b.proto, .int .i64 b.sport, .int .i64 b.dport] 40)) = w0 at *
  go_region_held3 (fun w' => Kept [] w0 w' ∧ (∀ o, w'.cell? ⟨w.heap.size, o, none⟩ = (#[.int .u32 (a.src.toNat : Nat), .int .u32 (a.dst.toNat : Nat), .int .i64 a.proto, .int .i64 a.sport, .int .i64 a.dport] : Array Value)[o]?) ∧ (∀ o, w'.cell? ⟨w.heap.size + 1, o, none⟩ = (#[.int .u32 (b.src.toNat : Nat), .int .u32 (b.dst.toNat : Nat), .int .i64 b.proto, .int .i64 b.sport, .int .i64 b.dport] : Array Value)[o]?))
    (first | exact ⟨(Kept.refl [] _).drew, P.out.cell, Q.out.cell⟩ | exact ⟨hkn, (P.out.kept hkn (by simp)).cell, (Q.out.kept hkn (by simp)).cell⟩ | exact ⟨hkn.alloc _, (P.out.kept (hkn.alloc _) (by simp)).cell, (Q.out.kept (hkn.alloc _) (by simp)).cell⟩)
    (first
     | (go_at_call 49
        rename_i hq _ _
        refine (cmp32 _ _ _).mono ?_
        rintro e w1 ⟨rfl, rfl⟩
        first | rw [E1.out] | rw [E2.out]
        have hkn := hq.1)
     | (go_at_call 50
        rename_i hq _ _
        refine (cmp64 _ _ _).mono ?_
        rintro e w1 ⟨rfl, rfl⟩
        first | rw [E3.out] | rw [E4.out] | rw [E5.out]
        have hkn := hq.1)
     | (go_at_call 48
        rename_i hq _ _
        refine (Or_any (w0.alloc (.cells #[.int .i64 c1, .int .i64 c2, .int .i64 c3, .int .i64 c4, .int .i64 c5] 3)).drew _ [c1, c2, c3, c4, c5] 5 rfl (by omega) (fun j hj => cells5 w0 c1 c2 c3 c4 c5 j hj)).mono ?_
        rintro e w1 ⟨rfl, rfl⟩
        rw [HR.out]
        have hkn := hq.1))
  go_wp2
  go_ret
  exact ⟨ret_bool (by rw [HLS.out, HR.out]), K.out.trans hkn (by simp)⟩
def keyT (t : TupD) : List Int := [(t.src.toNat : Nat), (t.dst.toNat : Nat), t.proto, t.sport, t.dport]
def cmpL (x y : List Int) : Int := orI (List.zipWith cmpI x y)
theorem less_key (a b : TupD) : lessT a b = decide (cmpL (keyT a) (keyT b) < 0) := rfl
theorem keyT_inj {a b : TupD} (h : keyT a = keyT b) : a = b := by
  simp only [keyT, List.cons.injEq, and_true] at h
  obtain ⟨h1, h2, h3, h4, h5⟩ := h
  have e1 := UInt32.toNat_inj.1 (Int.ofNat_inj.1 h1)
  have e2 := UInt32.toNat_inj.1 (Int.ofNat_inj.1 h2)
  cases a; cases b
  simp only [TupD.mk.injEq]
  exact ⟨e1, e2, h3, h4, h5⟩
theorem cmpI_range (a b : Int) : cmpI a b = -1 ∨ cmpI a b = 0 ∨ cmpI a b = 1 := by unfold cmpI; split <;> (try split) <;> simp
theorem cmpI_neg (a b : Int) : cmpI b a = -cmpI a b := by unfold cmpI; split <;> split <;> omega
theorem cmpI_zero {a b : Int} : cmpI a b = 0 ↔ a = b := by unfold cmpI; split <;> (try split) <;> omega
theorem cmpI_lt {a b : Int} : cmpI a b < 0 ↔ a < b := by unfold cmpI; split <;> (try split) <;> omega
theorem cmpL_cons (a b : Int) (x y : List Int) : cmpL (a :: x) (b :: y) = if cmpI a b ≠ 0 then cmpI a b else cmpL x y := rfl
theorem cmpL_refl : ∀ x : List Int, cmpL x x = 0
  | [] => rfl
  | a :: x => by rw [cmpL_cons, if_neg (by simp [cmpI_zero]), cmpL_refl x]
theorem cmpL_neg : ∀ x y : List Int, cmpL y x = -cmpL x y
  | [], [] => rfl
  | [], _ :: _ => rfl
  | _ :: _, [] => rfl
  | a :: x, b :: y => by
    rw [cmpL_cons, cmpL_cons, cmpI_neg a b]
    by_cases h : cmpI a b = 0
    · rw [if_neg (by omega), if_neg (by omega), cmpL_neg x y]
    · rw [if_pos (by omega), if_pos h]
theorem cmpL_zero : ∀ {x y : List Int}, x.length = y.length → cmpL x y = 0 → x = y
  | [], [], _, _ => rfl
  | a :: x, b :: y, hl, h => by
    rw [cmpL_cons] at h
    by_cases h0 : cmpI a b = 0
    · rw [if_neg (by omega)] at h
      rw [cmpI_zero.1 h0, cmpL_zero (by simpa using hl) h]
    · rw [if_pos h0] at h; exact absurd h h0
theorem cmpL_trans : ∀ {x y z : List Int}, x.length = y.length → y.length = z.length → cmpL x y < 0 → cmpL y z < 0 → cmpL x z < 0
  | [], [], [], _, _, h, _ => h
  | a :: x, b :: y, c :: z, h1, h2, h3, h4 => by
    rw [cmpL_cons] at h3 h4 ⊢
    by_cases e1 : cmpI a b = 0
    · have := cmpI_zero.1 e1
      subst this
      rw [if_neg (by omega)] at h3
      by_cases e2 : cmpI a c = 0
      · rw [if_neg (by omega)] at h4 ⊢
        exact cmpL_trans (by simpa using h1) (by simpa using h2) h3 h4
      · rw [if_pos e2] at h4 ⊢; exact h4
    · rw [if_pos e1] at h3
      by_cases e2 : cmpI b c = 0
      · have := cmpI_zero.1 e2
        subst this
        rw [if_pos e1]; exact h3
      · rw [if_pos e2] at h4
        have : cmpI a c < 0 := cmpI_lt.2 (by have := cmpI_lt.1 h3; have := cmpI_lt.1 h4; omega)
        rw [if_pos (by omega)]; exact this
theorem less_irr (a : TupD) : lessT a a = false := by rw [less_key, cmpL_refl]; rfl
theorem less_one {a b : TupD} (h : a ≠ b) : (lessT a b == lessT b a) = false := by
  rw [less_key, less_key, cmpL_neg (keyT a) (keyT b)]
  have h0 : cmpL (keyT a) (keyT b) ≠ 0 := fun e => h (keyT_inj (cmpL_zero rfl e))
  rw [beq_eq_false_iff_ne]
  intro e
  rw [decide_eq_decide] at e
  omega
theorem less_trans {a b c : TupD} (h1 : lessT a b = true) (h2 : lessT b c = true) : lessT a c = true := by
  rw [less_key, decide_eq_true_eq] at h1 h2 ⊢
  exact cmpL_trans (x := keyT a) (y := keyT b) (z := keyT c) rfl rfl h1 h2
end Go.Proofs.YtdabbkkjmmbigaaGreat
