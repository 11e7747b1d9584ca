
/-
  A call on both disks.
-/
import Derived.Test.YthdjdfdefibepaaRkR
namespace Go.Proofs.Ythdjdfdefibepaa
open Go.RowKit Go.ChangeShapes Go.WideShapes Go.ChangeAt Go.Deep Go.MapKept
set_option linter.unusedVariables false

def DkH (w : World) (G : List Nat) (p : Nat) (D : DkD) : Prop := ∃ fb bn bs A m c, DkX w G p fb D bn bs A m c
def RkH (w : World) (p : Nat) (H : List Nat) (M : RkD) : Prop := ∃ vs A1 c1 A2 c2 A3 c3 A4 c4, RkX w p H vs M A1 c1 A2 c2 A3 c3 A4 c4
/-- both disks, apart from each other -/
structure Duo (w : World) (G : List Nat) (p : Nat) (D : DkD) (p2 : Nat) (H : List Nat) (M : RkD) : Prop where
  d : DkH w G p D
  m : RkH w p2 H M
  ap : ∀ k ∈ G, k ∉ H ∧ k ≠ p2
def DoTo (w : World) (G : List Nat) (p : Nat) (D : DkD) (p2 : Nat) (H : List Nat) (M : RkD) (w' : World) : Prop :=
  ∃ G' H', Duo w' G' p D p2 H' M ∧ Kept (p2 :: G) w w' ∧ (∀ k ∈ G', k ∈ G ∨ w.heap.size ≤ k) ∧ ∀ k ∈ H', k ∈ H ∨ w.heap.size ≤ k
theorem DkH.lt {w : World} {G : List Nat} {p : Nat} {D : DkD} (h : DkH w G p D) : ∀ k ∈ G, k < w.heap.size := by obtain ⟨_, _, _, _, _, _, h⟩ := h; exact h.lt
theorem DkH.far {w w' : World} {G S : List Nat} {p : Nat} {D : DkD} (h : DkH w G p D) (hk : Kept S w w') (hS : ∀ k ∈ S, k ∉ G) : DkH w' G p D := by obtain ⟨_, _, _, _, _, _, h⟩ := h; exact ⟨_, _, _, _, _, _, h.far hk hS⟩
theorem RkH.lt {w : World} {p : Nat} {H : List Nat} {M : RkD} (h : RkH w p H M) : ∀ k ∈ H, k < w.heap.size := by obtain ⟨_, _, _, _, _, _, _, _, _, h⟩ := h; exact h.lt
theorem RkH.pt {w : World} {p : Nat} {H : List Nat} {M : RkD} (h : RkH w p H M) : p < w.heap.size := by obtain ⟨_, _, _, _, _, _, _, _, _, h⟩ := h; exact h.blk.lt
theorem RkH.far {w w' : World} {p : Nat} {H S : List Nat} {M : RkD} (h : RkH w p H M) (hk : Kept S w w') (hp : p ∉ S) (hS : ∀ k ∈ H, k ∉ S) : RkH w' p H M := by obtain ⟨_, _, _, _, _, _, _, _, _, h⟩ := h; exact ⟨_, _, _, _, _, _, _, _, _, h.far hk hp hS⟩
theorem Duo.go {w w' : World} {G : List Nat} {p : Nat} {D : DkD} {p2 : Nat} {H : List Nat} {M : RkD} (h : Duo w G p D p2 H M) (hk : Kept [] w w') : Duo w' G p D p2 H M := ⟨h.d.far hk (by simp), h.m.far hk (by simp) (by simp), h.ap⟩
theorem DoTo.mk {w w1 w2 : World} {G H : List Nat} {p p2 : Nat} {D D1 : DkD} {M M2 : RkD} (h : Duo w G p D p2 H M) (hd : DkOp w G p D1 w1) (hm : RkTo w1 p2 H M2 w2) : DoTo w G p D1 p2 H M2 w2 := by
  obtain ⟨fb, G1, bn, bs, A, m, c, x1, k1, g1⟩ := hd
  obtain ⟨H2, vs, A1, c1, A2, c2, A3, c3, A4, c4, x2, k2, g2⟩ := hm
  have hp2 := h.m.pt
  have hGlt := h.d.lt
  have hHlt := h.m.lt
  have hne : p2 ∉ G1 := fun hm => by
    rcases g1 p2 hm with h1 | h1
    · exact (h.ap p2 h1).2 rfl
    · omega
  refine ⟨G1, H2, ⟨⟨fb, bn, bs, A, m, c, x1.far k2 (fun k hk hm => by simp at hk; subst hk; exact hne hm)⟩, ⟨vs, A1, c1, A2, c2, A3, c3, A4, c4, x2⟩, fun k hk => ⟨fun hm => ?_, fun e => hne (e ▸ hk)⟩⟩, (k1.mono (fun i hi => .inl (List.mem_cons_of_mem _ hi))).trans k2 (fun i hi => .inl (by simp at hi; subst hi; exact List.mem_cons_self)), g1, fun k hk => ?_⟩
  · have hl := x1.lt k hk
    rcases g2 k hm with h1 | h1
    · rcases g1 k hk with h2 | h2
      · exact (h.ap k h2).1 h1
      · have := hHlt k h1; omega
    · omega
  · rcases g2 k hk with h1 | h1
    · exact .inl h1
    · exact .inr (Nat.le_trans k1.size h1)
theorem DoTo.pre {w wa w2 : World} {G H : List Nat} {p p2 : Nat} {D1 : DkD} {M2 : RkD} (h : DoTo wa G p D1 p2 H M2 w2) (hk : Kept [] w wa) : DoTo w G p D1 p2 H M2 w2 := by
  obtain ⟨G', H', h1, h2, h3, h4⟩ := h
  exact ⟨G', H', h1, (hk.mono (by simp)).trans h2 (fun i hi => .inl hi), fun k hm => (h3 k hm).imp id (Nat.le_trans hk.size), fun k hm => (h4 k hm).imp id (Nat.le_trans hk.size)⟩
def DoPost (w : World) (G : List Nat) (p : Nat) (D : DkD) (p2 : Nat) (H : List Nat) (e : Ending) (w' : World) : Prop :=
  e = .returned (.bool true) ∧ ∃ D' M', DoTo w G p D' p2 H M' w' ∧ InvD D' ∧ RM D' M' ∧ D'.ops ≤ D.ops + 1
theorem cra_ops (D : DkD) (ps : Bs) : (craD D ps).ops = D.ops := rfl
set_option maxHeartbeats 12800000 in
theorem doL_any (w : World) {G H : List Nat} {p p2 : Nat} {D : DkD} {M : RkD} (h : Duo w G p D p2 H M) (iv : InvD D) (rm : RM D M) (ho : D.ops ≤ 390) (k z : Int) (a b raw : Bs) {Gb : List Nat} {B : Option Addr} {n d : Nat}
    (hb : RdB w Gb (.slice B n d) raw) (hbG : ∀ i ∈ Gb, i ∉ G ∧ i ≠ p2 ∧ i < w.heap.size) (hn : n ≤ 3000) (ha : a.length ≤ 1000) (hbl : b.length ≤ 1000) (hz : -9223372036854775808 ≤ z ∧ z ≤ 9223372036854775807) :
    Calls Try.prog 29 #[.pointer (some ⟨p, 0, none⟩), .pointer (some ⟨p2, 0, none⟩), .agg #[.int .i64 k, .int .i64 z, .string (strOf a), .string (strOf b), .slice B n d]] w (DoPost w G p D p2 H) := by
  obtain ⟨σ, sim⟩ := rm
  have OKM := Lib.hid (sim.ok iv (by omega))
  have SIM := Lib.hid sim
  have IV := Lib.hid iv
  have BG := Lib.hid hbG
  have AL := Lib.hid ha
  have BL := Lib.hid hbl
  have ZB := Lib.hid hz
  have RL := Lib.hid hb.len.1
  have OB := Lib.hid ho
  obtain ⟨w0, hw0⟩ : ∃ w0, w.alloc (.cells #[.int .i64 k, .int .i64 z, .string (strOf a), .string (strOf b), .slice B n d] 30) = w0 := ⟨_, rfl⟩
  have K0 := Lib.hid (hw0 ▸ (Kept.refl [] w).alloc _ : Kept [] w w0)
  have Q0 := Lib.hid (hw0 ▸ Blk.new w _ _ : Blk w0 w.heap.size 30 #[.int .i64 k, .int .i64 z, .string (strOf a), .string (strOf b), .slice B n d])
  have DU := Lib.hid (h.go K0.out)
  have RB := Lib.hid (hb.kept K0.out (by simp))
  have GL := Lib.hid h.d.lt
  have PL := Lib.hid h.m.pt
  have qG : w.heap.size ∉ G := fun hm => by have := GL.out _ hm; omega
  have qp : w.heap.size ≠ p2 := by have := PL.out; omega
  clear h iv sim hb hbG ho ha hbl hz
  have hq0 := Q0.out.cell
  have hcases : k = 0 ∨ k = 1 ∨ k = 2 ∨ k = 3 ∨ k = 4 ∨ k = 5 ∨ k = 6 ∨ (¬ k = 0 ∧ ¬ k = 1 ∧ ¬ k = 2 ∧ ¬ k = 3 ∧ ¬ k = 4 ∧ ¬ k = 5 ∧ ¬ k = 6) := by omega
  rcases hcases with rfl | rfl | rfl | rfl | rfl | rfl | rfl | ⟨k0, k1, k2, k3, k4, k5, k6⟩
  · go_enter Try.func29, Try.ntmps29
    go_upto_region 5 with fail
    try rw [hw0]
    have DUD := Lib.hid (DU.out.go ((Kept.refl [] w0).drew))
    have KD := Lib.hid (K0.out.trans ((Kept.refl [] w0).drew) (by simp) : Kept [] w w0.drew)
    have RBD := Lib.hid (RB.out.kept ((Kept.refl [] w0).drew) (by simp))
    obtain ⟨fb, bn, bs, A, m, c, xd⟩ := DUD.out.d
    obtain ⟨vs, A1, c1, A2, c2, A3, c3, A4, c4, xm⟩ := DUD.out.m
    have XD := Lib.hid xd
    have XM := Lib.hid xm
    clear xd xm
    refine wp_region_held_drew (S := (fun w' => ∀ i, w'.cell? ⟨w.heap.size, i, none⟩ = (#[.int .i64 0, .int .i64 z, .string (strOf a), .string (strOf b), .slice B n d] : Array Value)[i]?)) (by kernel_rfl) (fun i => hq0 i) (fun hHeld => ?_)
    refine wpAnyH_take (i := 0) (oi := ⟨some 19, _, _, _, _, _⟩) (v := ?vh1_1) rfl (by kernel_rfl) (by kernel_rfl) (by kernel_rfl) (fun _ _ _ h => h) (Or.inl ⟨by kernel_rfl, ?hyh1_1⟩) (by assumption) ?resth1_1
    case hyh1_1 => (intro w99 hSw; (try dsimp only at hSw); (try go_simp); (try with_reducible rfl); (try omega))
    simp only [Act.put, List.setIfInBounds_toArray, List.set_cons_zero, List.set_cons_succ]
    refine wpAnyH_take (i := 1) (oi := ⟨some 20, _, _, _, _, _⟩) (v := ?vh1_2) rfl (by kernel_rfl) (by kernel_rfl) (by kernel_rfl) (fun _ _ _ h => h) (Or.inl ⟨by kernel_rfl, ?hyh1_2⟩) (by assumption) ?resth1_2
    case hyh1_2 => (intro w99 hSw; (try dsimp only at hSw); (try go_simp); (try with_reducible rfl); (try omega))
    simp only [Act.put, List.setIfInBounds_toArray, List.set_cons_zero, List.set_cons_succ]
    refine wpAnyH_take (i := 2) (oi := ⟨some 21, _, _, _, _, _⟩) (v := ?vh1_3) rfl (by kernel_rfl) (by kernel_rfl) (by kernel_rfl) (fun _ _ _ h => h) (Or.inl ⟨by kernel_rfl, ?hyh1_3⟩) (by assumption) ?resth1_3
    case hyh1_3 => (intro w99 hSw; (try dsimp only at hSw); (try go_simp); (try with_reducible rfl); (try omega))
    simp only [Act.put, List.setIfInBounds_toArray, List.set_cons_zero, List.set_cons_succ]
    refine wpAnyH_take (i := 3) (oi := ⟨some 22, _, _, _, _, _⟩) (v := ?vh1_4) rfl (by kernel_rfl) (by kernel_rfl) (by kernel_rfl) (fun _ _ _ h => h) (Or.inl ⟨by kernel_rfl, ?hyh1_4⟩) (by assumption) ?resth1_4
    case hyh1_4 => (intro w99 hSw; (try dsimp only at hSw); (try go_simp); (try with_reducible rfl); (try omega))
    simp only [Act.put, List.setIfInBounds_toArray, List.set_cons_zero, List.set_cons_succ]
    refine wpAnyH_take (i := 4) (oi := ⟨some 23, _, _, _, _, _⟩) (v := ?vh1_5) rfl (by kernel_rfl) (by kernel_rfl) (by kernel_rfl) (fun _ _ _ h => h) (Or.inl ⟨by kernel_rfl, ?hyh1_5⟩) (by assumption) ?resth1_5
    case hyh1_5 => (intro w99 hSw; (try dsimp only at hSw); (try go_simp); (try with_reducible rfl); (try omega))
    simp only [Act.put, List.setIfInBounds_toArray, List.set_cons_zero, List.set_cons_succ]
    refine wpAnyH_take (i := 6) (oi := ⟨some 25, _, _, _, _, _⟩) (v := ?vh1_6) rfl (by kernel_rfl) (by kernel_rfl) (by kernel_rfl) (fun _ _ _ h => h) (Or.inl ⟨by kernel_rfl, ?hyh1_6⟩) (by assumption) ?resth1_6
    case hyh1_6 => (intro w99 hSw; (try dsimp only at hSw); (try go_simp); (try with_reducible rfl); (try omega))
    simp only [Act.put, List.setIfInBounds_toArray, List.set_cons_zero, List.set_cons_succ]
    refine wpAnyH_take (i := 7) (oi := ⟨some 26, _, _, _, _, _⟩) (v := ?vh1_7) rfl (by kernel_rfl) (by kernel_rfl) (by kernel_rfl) (fun _ _ _ h => h) (Or.inl ⟨by kernel_rfl, ?hyh1_7⟩) (by assumption) ?resth1_7
    case hyh1_7 => (intro w99 hSw; (try dsimp only at hSw); (try go_simp); (try with_reducible rfl); (try omega))
    simp only [Act.put, List.setIfInBounds_toArray, List.set_cons_zero, List.set_cons_succ]
    refine wpAnyH_take (i := 8) (oi := ⟨some 27, _, _, _, _, _⟩) (v := ?vh1_8) rfl (by kernel_rfl) (by kernel_rfl) (by kernel_rfl) (fun _ _ _ h => h) (Or.inl ⟨by kernel_rfl, ?hyh1_8⟩) (by assumption) ?resth1_8
    case hyh1_8 => (intro w99 hSw; (try dsimp only at hSw); (try go_simp); (try with_reducible rfl); (try omega))
    simp only [Act.put, List.setIfInBounds_toArray, List.set_cons_zero, List.set_cons_succ]
    refine wpAnyH_take (i := 9) (oi := ⟨some 28, _, _, _, _, _⟩) (v := ?vh1_9) rfl (by kernel_rfl) (by kernel_rfl) (by kernel_rfl) (fun _ _ _ h => h) (Or.inl ⟨by kernel_rfl, ?hyh1_9⟩) (by assumption) ?resth1_9
    case hyh1_9 => (intro w99 hSw; (try dsimp only at hSw); (try go_simp); (try with_reducible rfl); (try omega))
    simp only [Act.put, List.setIfInBounds_toArray, List.set_cons_zero, List.set_cons_succ]
    refine wpAnyH_take (i := 10) (oi := ⟨some 29, _, _, _, _, _⟩) (v := ?vh1_10) rfl (by kernel_rfl) (by kernel_rfl) (by kernel_rfl) (fun _ _ _ h => h) (Or.inl ⟨by kernel_rfl, ?hyh1_10⟩) (by assumption) ?resth1_10
    case hyh1_10 => (intro w99 hSw; (try dsimp only at hSw); (try go_simp); (try with_reducible rfl); (try omega))
    simp only [Act.put, List.setIfInBounds_toArray, List.set_cons_zero, List.set_cons_succ]
    refine wpAnyH_ready (rs := [5]) (by kernel_rfl) (by simp) ?_
    refine AllReadyH.cons (o := ⟨some 24, _, _, _, _, _⟩) rfl (fun KQ hKQ => ?w5h1_11) AllReadyH.nil
    case w5h1_11 =>
      go_simp
      go_at_call 17
      have hz := Append_any XD.out IV.out.ok (by have := OB.out; omega) a raw (by have := AL.out; omega) RBD.out (fun i hi => (BG.out i hi).1) (by omega)
      with_reducible refine hz.mono ?_
      clear hz
      rintro e w1 ⟨rfl, hop⟩
      have OPD := Lib.hid hop
      have KD1 := Lib.hid (show Kept G w0.drew w1 from by obtain ⟨_, _, _, _, _, _, _, _, hk, _⟩ := hop; exact hk)
      have XM1 := Lib.hid (XM.out.far KD1.out (fun hm => (DUD.out.ap _ hm).2 rfl) (fun i hi hm => (DUD.out.ap _ hm).1 hi))
      have Q1 := Lib.hid ((Q0.out.drew).kept KD1.out qG)
      have hq1 := Q1.out.cell
      have RB1 := Lib.hid (RBD.out.kept KD1.out (fun i hi hm => (BG.out i hi).1 hm))
      clear hop
      go_wp2_with fail
      refine hKQ.out _ _ (fun i => Q1.out.cell i) (fun hHeld9 => ?_)
      clear hKQ KQ hHeld
      have hHeld := hHeld9
      clear hHeld9
      try simp only [Act.put, List.setIfInBounds_toArray, List.set_cons_zero, List.set_cons_succ]
      refine wpAnyH_ready (rs := [11]) (by kernel_rfl) (by simp) ?_
      refine AllReadyH.cons (o := ⟨some 30, _, _, _, _, _⟩) rfl (fun KQ hKQ => ?w11h1_12) AllReadyH.nil
      case w11h1_12 =>
        go_simp
        go_at_call 47
        have hz := rAppend_any XM1.out OKM.out a raw RB1.out (fun hm => (BG.out _ hm).2.1 rfl) (by omega) (by have := AL.out; omega)
        rw [← (app_sim SIM.out IV.out (by have := OB.out; omega) a raw).1] at hz
        with_reducible refine hz.mono ?_
        clear hz
        rintro e w2 ⟨rfl, hto⟩
        have TM := Lib.hid hto
        have KM2 := Lib.hid (show Kept [p2] w1 w2 from by obtain ⟨_, _, _, _, _, _, _, _, _, _, _, hk, _⟩ := hto; exact hk)
        have Q2 := Lib.hid (Q1.out.kept KM2.out (by simp; exact qp))
        clear hto
        go_wp2_with fail
        refine hKQ.out _ _ (fun i => Q2.out.cell i) (fun hHeld9 => ?_)
        clear hKQ KQ hHeld
        have hHeld := hHeld9
        clear hHeld9
        try simp only [Act.put, List.setIfInBounds_toArray, List.set_cons_zero, List.set_cons_succ]
        refine wpAnyH_take (i := 12) (oi := ⟨some 31, _, _, _, _, _⟩) (v := .bool true) rfl (by kernel_rfl) (by kernel_rfl) (by kernel_rfl) (fun _ _ _ h => h) (Or.inl ⟨by kernel_rfl, ?hyh1_13⟩) (by assumption) ?resth1_13
        case hyh1_13 => (intro w99 hSw; (try dsimp only at hSw); (try go_simp); (try with_reducible rfl); (try omega))
        simp only [Act.put, List.setIfInBounds_toArray, List.set_cons_zero, List.set_cons_succ]
        refine wpAnyH_take (i := 13) (oi := ⟨some 6, _, _, _, _, _⟩) (v := ?vh1_14) rfl (by kernel_rfl) (by kernel_rfl) (by kernel_rfl) (fun _ _ _ h => h) (Or.inl ⟨by kernel_rfl, ?hyh1_14⟩) (by assumption) ?resth1_14
        case hyh1_14 => (intro w99 hSw; (try dsimp only at hSw); (try go_simp); (try with_reducible rfl); (try omega))
        simp only [Act.put, List.setIfInBounds_toArray, List.set_cons_zero, List.set_cons_succ]
        refine wpAnyH_done (by kernel_rfl) ?_ _
        clear hHeld
        go_wp2
        go_ret
        exact ⟨rfl, _, _, (DoTo.mk DUD.out OPD.out TM.out).pre KD.out, app_inv IV.out _ _, (app_sim SIM.out IV.out (by have := OB.out; omega) a raw).2, by rw [app_ops]; omega⟩
  · go_enter Try.func29, Try.ntmps29
    go_upto_region 7 with fail
    try rw [hw0]
    have DUD := Lib.hid (DU.out.go ((Kept.refl [] w0).drew))
    have KD := Lib.hid (K0.out.trans ((Kept.refl [] w0).drew) (by simp) : Kept [] w w0.drew)
    have RBD := Lib.hid (RB.out.kept ((Kept.refl [] w0).drew) (by simp))
    obtain ⟨fb, bn, bs, A, m, c, xd⟩ := DUD.out.d
    obtain ⟨vs, A1, c1, A2, c2, A3, c3, A4, c4, xm⟩ := DUD.out.m
    have XD := Lib.hid xd
    have XM := Lib.hid xm
    clear xd xm
    refine wp_region_held_drew (S := (fun w' => ∀ i, w'.cell? ⟨w.heap.size, i, none⟩ = (#[.int .i64 1, .int .i64 z, .string (strOf a), .string (strOf b), .slice B n d] : Array Value)[i]?)) (by kernel_rfl) (fun i => hq0 i) (fun hHeld => ?_)
    refine wpAnyH_take (i := 0) (oi := ⟨some 34, _, _, _, _, _⟩) (v := ?vh2_1) rfl (by kernel_rfl) (by kernel_rfl) (by kernel_rfl) (fun _ _ _ h => h) (Or.inl ⟨by kernel_rfl, ?hyh2_1⟩) (by assumption) ?resth2_1
    case hyh2_1 => (intro w99 hSw; (try dsimp only at hSw); (try go_simp); (try with_reducible rfl); (try omega))
    simp only [Act.put, List.setIfInBounds_toArray, List.set_cons_zero, List.set_cons_succ]
    refine wpAnyH_take (i := 1) (oi := ⟨some 35, _, _, _, _, _⟩) (v := ?vh2_2) rfl (by kernel_rfl) (by kernel_rfl) (by kernel_rfl) (fun _ _ _ h => h) (Or.inl ⟨by kernel_rfl, ?hyh2_2⟩) (by assumption) ?resth2_2
    case hyh2_2 => (intro w99 hSw; (try dsimp only at hSw); (try go_simp); (try with_reducible rfl); (try omega))
    simp only [Act.put, List.setIfInBounds_toArray, List.set_cons_zero, List.set_cons_succ]
    refine wpAnyH_take (i := 2) (oi := ⟨some 36, _, _, _, _, _⟩) (v := ?vh2_3) rfl (by kernel_rfl) (by kernel_rfl) (by kernel_rfl) (fun _ _ _ h => h) (Or.inl ⟨by kernel_rfl, ?hyh2_3⟩) (by assumption) ?resth2_3
    case hyh2_3 => (intro w99 hSw; (try dsimp only at hSw); (try go_simp); (try with_reducible rfl); (try omega))
    simp only [Act.put, List.setIfInBounds_toArray, List.set_cons_zero, List.set_cons_succ]
    refine wpAnyH_take (i := 4) (oi := ⟨some 38, _, _, _, _, _⟩) (v := ?vh2_4) rfl (by kernel_rfl) (by kernel_rfl) (by kernel_rfl) (fun _ _ _ h => h) (Or.inl ⟨by kernel_rfl, ?hyh2_4⟩) (by assumption) ?resth2_4
    case hyh2_4 => (intro w99 hSw; (try dsimp only at hSw); (try go_simp); (try with_reducible rfl); (try omega))
    simp only [Act.put, List.setIfInBounds_toArray, List.set_cons_zero, List.set_cons_succ]
    refine wpAnyH_take (i := 5) (oi := ⟨some 39, _, _, _, _, _⟩) (v := ?vh2_5) rfl (by kernel_rfl) (by kernel_rfl) (by kernel_rfl) (fun _ _ _ h => h) (Or.inl ⟨by kernel_rfl, ?hyh2_5⟩) (by assumption) ?resth2_5
    case hyh2_5 => (intro w99 hSw; (try dsimp only at hSw); (try go_simp); (try with_reducible rfl); (try omega))
    simp only [Act.put, List.setIfInBounds_toArray, List.set_cons_zero, List.set_cons_succ]
    refine wpAnyH_take (i := 6) (oi := ⟨some 40, _, _, _, _, _⟩) (v := ?vh2_6) rfl (by kernel_rfl) (by kernel_rfl) (by kernel_rfl) (fun _ _ _ h => h) (Or.inl ⟨by kernel_rfl, ?hyh2_6⟩) (by assumption) ?resth2_6
    case hyh2_6 => (intro w99 hSw; (try dsimp only at hSw); (try go_simp); (try with_reducible rfl); (try omega))
    simp only [Act.put, List.setIfInBounds_toArray, List.set_cons_zero, List.set_cons_succ]
    refine wpAnyH_ready (rs := [3]) (by kernel_rfl) (by simp) ?_
    refine AllReadyH.cons (o := ⟨some 37, _, _, _, _, _⟩) rfl (fun KQ hKQ => ?w3h2_7) AllReadyH.nil
    case w3h2_7 =>
      go_simp
      go_at_call 21
      have hz := Sync_any XD.out IV.out.ok (by have := OB.out; omega) a
      with_reducible refine hz.mono ?_
      clear hz
      rintro e w1 ⟨rfl, hop⟩
      have OPD := Lib.hid hop
      have KD1 := Lib.hid (show Kept G w0.drew w1 from by obtain ⟨_, _, _, _, _, _, _, _, hk, _⟩ := hop; exact hk)
      have XM1 := Lib.hid (XM.out.far KD1.out (fun hm => (DUD.out.ap _ hm).2 rfl) (fun i hi hm => (DUD.out.ap _ hm).1 hi))
      have Q1 := Lib.hid ((Q0.out.drew).kept KD1.out qG)
      have hq1 := Q1.out.cell
      have RB1 := Lib.hid (RBD.out.kept KD1.out (fun i hi hm => (BG.out i hi).1 hm))
      clear hop
      go_wp2_with fail
      refine hKQ.out _ _ (fun i => Q1.out.cell i) (fun hHeld9 => ?_)
      clear hKQ KQ hHeld
      have hHeld := hHeld9
      clear hHeld9
      try simp only [Act.put, List.setIfInBounds_toArray, List.set_cons_zero, List.set_cons_succ]
      refine wpAnyH_ready (rs := [7]) (by kernel_rfl) (by simp) ?_
      refine AllReadyH.cons (o := ⟨some 41, _, _, _, _, _⟩) rfl (fun KQ hKQ => ?w7h2_8) AllReadyH.nil
      case w7h2_8 =>
        go_simp
        go_at_call 48
        have hz := rSync_any XM1.out OKM.out a
        rw [← (syn_sim SIM.out IV.out (by have := OB.out; omega) a).1] at hz
        with_reducible refine hz.mono ?_
        clear hz
        rintro e w2 ⟨rfl, hto⟩
        have TM := Lib.hid hto
        have KM2 := Lib.hid (show Kept [p2] w1 w2 from by obtain ⟨_, _, _, _, _, _, _, _, _, _, _, hk, _⟩ := hto; exact hk)
        have Q2 := Lib.hid (Q1.out.kept KM2.out (by simp; exact qp))
        clear hto
        go_wp2_with fail
        refine hKQ.out _ _ (fun i => Q2.out.cell i) (fun hHeld9 => ?_)
        clear hKQ KQ hHeld
        have hHeld := hHeld9
        clear hHeld9
        try simp only [Act.put, List.setIfInBounds_toArray, List.set_cons_zero, List.set_cons_succ]
        refine wpAnyH_take (i := 8) (oi := ⟨some 42, _, _, _, _, _⟩) (v := .bool true) rfl (by kernel_rfl) (by kernel_rfl) (by kernel_rfl) (fun _ _ _ h => h) (Or.inl ⟨by kernel_rfl, ?hyh2_9⟩) (by assumption) ?resth2_9
        case hyh2_9 => (intro w99 hSw; (try dsimp only at hSw); (try go_simp); (try with_reducible rfl); (try omega))
        simp only [Act.put, List.setIfInBounds_toArray, List.set_cons_zero, List.set_cons_succ]
        refine wpAnyH_take (i := 9) (oi := ⟨some 6, _, _, _, _, _⟩) (v := ?vh2_10) rfl (by kernel_rfl) (by kernel_rfl) (by kernel_rfl) (fun _ _ _ h => h) (Or.inl ⟨by kernel_rfl, ?hyh2_10⟩) (by assumption) ?resth2_10
        case hyh2_10 => (intro w99 hSw; (try dsimp only at hSw); (try go_simp); (try with_reducible rfl); (try omega))
        simp only [Act.put, List.setIfInBounds_toArray, List.set_cons_zero, List.set_cons_succ]
        refine wpAnyH_done (by kernel_rfl) ?_ _
        clear hHeld
        go_wp2
        go_ret
        exact ⟨rfl, _, _, (DoTo.mk DUD.out OPD.out TM.out).pre KD.out, syn_inv IV.out _, (syn_sim SIM.out IV.out (by have := OB.out; omega) a).2, by rw [syn_ops]; omega⟩
  · have DUD := Lib.hid DU.out
    have KD := Lib.hid K0.out
    have RBD := Lib.hid RB.out
    obtain ⟨fb, bn, bs, A, m, c, xd⟩ := DUD.out.d
    obtain ⟨vs, A1, c1, A2, c2, A3, c3, A4, c4, xm⟩ := DUD.out.m
    have XD := Lib.hid xd
    have XM := Lib.hid xm
    clear xd xm
    go_enter Try.func29, Try.ntmps29
    go_wp2_with (first
      | (go_at_call 22
         have hz := SyncDir_any XD.out IV.out.ok (by have := OB.out; omega)
         with_reducible refine hz.mono ?_
         clear hz
         rintro e w1 ⟨rfl, hop⟩
         have OPD := Lib.hid hop
         have KD1 := Lib.hid (show Kept G w0 w1 from by obtain ⟨_, _, _, _, _, _, _, _, hk, _⟩ := hop; exact hk)
         have XM1 := Lib.hid (XM.out.far KD1.out (fun hm => (DUD.out.ap _ hm).2 rfl) (fun i hi hm => (DUD.out.ap _ hm).1 hi))
         have Q1 := Lib.hid (Q0.out.kept KD1.out qG)
         have hq1 := Q1.out.cell
         have RB1 := Lib.hid (RBD.out.kept KD1.out (fun i hi hm => (BG.out i hi).1 hm))
         clear hop)
      | (go_at_call 49
         have hz := rSyncDir_any XM1.out OKM.out
         rw [← (sdr_sim SIM.out IV.out (by have := OB.out; omega)).1] at hz
         with_reducible refine hz.mono ?_
         clear hz
         rintro e w2 ⟨rfl, hto⟩
         have TM := Lib.hid hto
         have KM2 := Lib.hid (show Kept [p2] w1 w2 from by obtain ⟨_, _, _, _, _, _, _, _, _, _, _, hk, _⟩ := hto; exact hk)
         have Q2 := Lib.hid (Q1.out.kept KM2.out (by simp; exact qp))
         clear hto))
    go_ret
    exact ⟨rfl, _, _, (DoTo.mk DUD.out OPD.out TM.out).pre KD.out, sdr_inv IV.out, (sdr_sim SIM.out IV.out (by have := OB.out; omega)).2, by rw [sdr_ops]; omega⟩
  · go_enter Try.func29, Try.ntmps29
    go_upto_region 11 with fail
    try rw [hw0]
    have DUD := Lib.hid (DU.out.go ((Kept.refl [] w0).drew))
    have KD := Lib.hid (K0.out.trans ((Kept.refl [] w0).drew) (by simp) : Kept [] w w0.drew)
    have RBD := Lib.hid (RB.out.kept ((Kept.refl [] w0).drew) (by simp))
    obtain ⟨fb, bn, bs, A, m, c, xd⟩ := DUD.out.d
    obtain ⟨vs, A1, c1, A2, c2, A3, c3, A4, c4, xm⟩ := DUD.out.m
    have XD := Lib.hid xd
    have XM := Lib.hid xm
    clear xd xm
    refine wp_region_held_drew (S := (fun w' => ∀ i, w'.cell? ⟨w.heap.size, i, none⟩ = (#[.int .i64 3, .int .i64 z, .string (strOf a), .string (strOf b), .slice B n d] : Array Value)[i]?)) (by kernel_rfl) (fun i => hq0 i) (fun hHeld => ?_)
    refine wpAnyH_take (i := 0) (oi := ⟨some 52, _, _, _, _, _⟩) (v := ?vh3_1) rfl (by kernel_rfl) (by kernel_rfl) (by kernel_rfl) (fun _ _ _ h => h) (Or.inl ⟨by kernel_rfl, ?hyh3_1⟩) (by assumption) ?resth3_1
    case hyh3_1 => (intro w99 hSw; (try dsimp only at hSw); (try go_simp); (try with_reducible rfl); (try omega))
    simp only [Act.put, List.setIfInBounds_toArray, List.set_cons_zero, List.set_cons_succ]
    refine wpAnyH_take (i := 1) (oi := ⟨some 53, _, _, _, _, _⟩) (v := ?vh3_2) rfl (by kernel_rfl) (by kernel_rfl) (by kernel_rfl) (fun _ _ _ h => h) (Or.inl ⟨by kernel_rfl, ?hyh3_2⟩) (by assumption) ?resth3_2
    case hyh3_2 => (intro w99 hSw; (try dsimp only at hSw); (try go_simp); (try with_reducible rfl); (try omega))
    simp only [Act.put, List.setIfInBounds_toArray, List.set_cons_zero, List.set_cons_succ]
    refine wpAnyH_take (i := 2) (oi := ⟨some 54, _, _, _, _, _⟩) (v := ?vh3_3) rfl (by kernel_rfl) (by kernel_rfl) (by kernel_rfl) (fun _ _ _ h => h) (Or.inl ⟨by kernel_rfl, ?hyh3_3⟩) (by assumption) ?resth3_3
    case hyh3_3 => (intro w99 hSw; (try dsimp only at hSw); (try go_simp); (try with_reducible rfl); (try omega))
    simp only [Act.put, List.setIfInBounds_toArray, List.set_cons_zero, List.set_cons_succ]
    refine wpAnyH_take (i := 3) (oi := ⟨some 55, _, _, _, _, _⟩) (v := ?vh3_4) rfl (by kernel_rfl) (by kernel_rfl) (by kernel_rfl) (fun _ _ _ h => h) (Or.inl ⟨by kernel_rfl, ?hyh3_4⟩) (by assumption) ?resth3_4
    case hyh3_4 => (intro w99 hSw; (try dsimp only at hSw); (try go_simp); (try with_reducible rfl); (try omega))
    simp only [Act.put, List.setIfInBounds_toArray, List.set_cons_zero, List.set_cons_succ]
    refine wpAnyH_take (i := 4) (oi := ⟨some 56, _, _, _, _, _⟩) (v := ?vh3_5) rfl (by kernel_rfl) (by kernel_rfl) (by kernel_rfl) (fun _ _ _ h => h) (Or.inl ⟨by kernel_rfl, ?hyh3_5⟩) (by assumption) ?resth3_5
    case hyh3_5 => (intro w99 hSw; (try dsimp only at hSw); (try go_simp); (try with_reducible rfl); (try omega))
    simp only [Act.put, List.setIfInBounds_toArray, List.set_cons_zero, List.set_cons_succ]
    refine wpAnyH_take (i := 6) (oi := ⟨some 58, _, _, _, _, _⟩) (v := ?vh3_6) rfl (by kernel_rfl) (by kernel_rfl) (by kernel_rfl) (fun _ _ _ h => h) (Or.inl ⟨by kernel_rfl, ?hyh3_6⟩) (by assumption) ?resth3_6
    case hyh3_6 => (intro w99 hSw; (try dsimp only at hSw); (try go_simp); (try with_reducible rfl); (try omega))
    simp only [Act.put, List.setIfInBounds_toArray, List.set_cons_zero, List.set_cons_succ]
    refine wpAnyH_take (i := 7) (oi := ⟨some 59, _, _, _, _, _⟩) (v := ?vh3_7) rfl (by kernel_rfl) (by kernel_rfl) (by kernel_rfl) (fun _ _ _ h => h) (Or.inl ⟨by kernel_rfl, ?hyh3_7⟩) (by assumption) ?resth3_7
    case hyh3_7 => (intro w99 hSw; (try dsimp only at hSw); (try go_simp); (try with_reducible rfl); (try omega))
    simp only [Act.put, List.setIfInBounds_toArray, List.set_cons_zero, List.set_cons_succ]
    refine wpAnyH_take (i := 8) (oi := ⟨some 60, _, _, _, _, _⟩) (v := ?vh3_8) rfl (by kernel_rfl) (by kernel_rfl) (by kernel_rfl) (fun _ _ _ h => h) (Or.inl ⟨by kernel_rfl, ?hyh3_8⟩) (by assumption) ?resth3_8
    case hyh3_8 => (intro w99 hSw; (try dsimp only at hSw); (try go_simp); (try with_reducible rfl); (try omega))
    simp only [Act.put, List.setIfInBounds_toArray, List.set_cons_zero, List.set_cons_succ]
    refine wpAnyH_take (i := 9) (oi := ⟨some 61, _, _, _, _, _⟩) (v := ?vh3_9) rfl (by kernel_rfl) (by kernel_rfl) (by kernel_rfl) (fun _ _ _ h => h) (Or.inl ⟨by kernel_rfl, ?hyh3_9⟩) (by assumption) ?resth3_9
    case hyh3_9 => (intro w99 hSw; (try dsimp only at hSw); (try go_simp); (try with_reducible rfl); (try omega))
    simp only [Act.put, List.setIfInBounds_toArray, List.set_cons_zero, List.set_cons_succ]
    refine wpAnyH_take (i := 10) (oi := ⟨some 62, _, _, _, _, _⟩) (v := ?vh3_10) rfl (by kernel_rfl) (by kernel_rfl) (by kernel_rfl) (fun _ _ _ h => h) (Or.inl ⟨by kernel_rfl, ?hyh3_10⟩) (by assumption) ?resth3_10
    case hyh3_10 => (intro w99 hSw; (try dsimp only at hSw); (try go_simp); (try with_reducible rfl); (try omega))
    simp only [Act.put, List.setIfInBounds_toArray, List.set_cons_zero, List.set_cons_succ]
    refine wpAnyH_ready (rs := [5]) (by kernel_rfl) (by simp) ?_
    refine AllReadyH.cons (o := ⟨some 57, _, _, _, _, _⟩) rfl (fun KQ hKQ => ?w5h3_11) AllReadyH.nil
    case w5h3_11 =>
      go_simp
      go_at_call 23
      have hz := Rename_any XD.out IV.out.ok (by have := OB.out; omega) a b (by have := BL.out; omega)
      with_reducible refine hz.mono ?_
      clear hz
      rintro e w1 ⟨rfl, hop⟩
      have OPD := Lib.hid hop
      have KD1 := Lib.hid (show Kept G w0.drew w1 from by obtain ⟨_, _, _, _, _, _, _, _, hk, _⟩ := hop; exact hk)
      have XM1 := Lib.hid (XM.out.far KD1.out (fun hm => (DUD.out.ap _ hm).2 rfl) (fun i hi hm => (DUD.out.ap _ hm).1 hi))
      have Q1 := Lib.hid ((Q0.out.drew).kept KD1.out qG)
      have hq1 := Q1.out.cell
      have RB1 := Lib.hid (RBD.out.kept KD1.out (fun i hi hm => (BG.out i hi).1 hm))
      clear hop
      go_wp2_with fail
      refine hKQ.out _ _ (fun i => Q1.out.cell i) (fun hHeld9 => ?_)
      clear hKQ KQ hHeld
      have hHeld := hHeld9
      clear hHeld9
      try simp only [Act.put, List.setIfInBounds_toArray, List.set_cons_zero, List.set_cons_succ]
      refine wpAnyH_ready (rs := [11]) (by kernel_rfl) (by simp) ?_
      refine AllReadyH.cons (o := ⟨some 63, _, _, _, _, _⟩) rfl (fun KQ hKQ => ?w11h3_12) AllReadyH.nil
      case w11h3_12 =>
        go_simp
        go_at_call 50
        have hz := rRename_any XM1.out OKM.out a b (by have := BL.out; omega)
        rw [← (ren_sim SIM.out IV.out (by have := OB.out; omega) a b).1] at hz
        with_reducible refine hz.mono ?_
        clear hz
        rintro e w2 ⟨rfl, hto⟩
        have TM := Lib.hid hto
        have KM2 := Lib.hid (show Kept [p2] w1 w2 from by obtain ⟨_, _, _, _, _, _, _, _, _, _, _, hk, _⟩ := hto; exact hk)
        have Q2 := Lib.hid (Q1.out.kept KM2.out (by simp; exact qp))
        clear hto
        go_wp2_with fail
        refine hKQ.out _ _ (fun i => Q2.out.cell i) (fun hHeld9 => ?_)
        clear hKQ KQ hHeld
        have hHeld := hHeld9
        clear hHeld9
        try simp only [Act.put, List.setIfInBounds_toArray, List.set_cons_zero, List.set_cons_succ]
        refine wpAnyH_take (i := 12) (oi := ⟨some 64, _, _, _, _, _⟩) (v := .bool true) rfl (by kernel_rfl) (by kernel_rfl) (by kernel_rfl) (fun _ _ _ h => h) (Or.inl ⟨by kernel_rfl, ?hyh3_13⟩) (by assumption) ?resth3_13
        case hyh3_13 => (intro w99 hSw; (try dsimp only at hSw); (try go_simp); (try with_reducible rfl); (try omega))
        simp only [Act.put, List.setIfInBounds_toArray, List.set_cons_zero, List.set_cons_succ]
        refine wpAnyH_take (i := 13) (oi := ⟨some 6, _, _, _, _, _⟩) (v := ?vh3_14) rfl (by kernel_rfl) (by kernel_rfl) (by kernel_rfl) (fun _ _ _ h => h) (Or.inl ⟨by kernel_rfl, ?hyh3_14⟩) (by assumption) ?resth3_14
        case hyh3_14 => (intro w99 hSw; (try dsimp only at hSw); (try go_simp); (try with_reducible rfl); (try omega))
        simp only [Act.put, List.setIfInBounds_toArray, List.set_cons_zero, List.set_cons_succ]
        refine wpAnyH_done (by kernel_rfl) ?_ _
        clear hHeld
        go_wp2
        go_ret
        exact ⟨rfl, _, _, (DoTo.mk DUD.out OPD.out TM.out).pre KD.out, ren_inv IV.out _ _, (ren_sim SIM.out IV.out (by have := OB.out; omega) a b).2, by rw [ren_ops]; omega⟩
  · go_enter Try.func29, Try.ntmps29
    go_upto_region 13 with fail
    try rw [hw0]
    have DUD := Lib.hid (DU.out.go ((Kept.refl [] w0).drew))
    have KD := Lib.hid (K0.out.trans ((Kept.refl [] w0).drew) (by simp) : Kept [] w w0.drew)
    have RBD := Lib.hid (RB.out.kept ((Kept.refl [] w0).drew) (by simp))
    obtain ⟨fb, bn, bs, A, m, c, xd⟩ := DUD.out.d
    obtain ⟨vs, A1, c1, A2, c2, A3, c3, A4, c4, xm⟩ := DUD.out.m
    have XD := Lib.hid xd
    have XM := Lib.hid xm
    clear xd xm
    refine wp_region_held_drew (S := (fun w' => ∀ i, w'.cell? ⟨w.heap.size, i, none⟩ = (#[.int .i64 4, .int .i64 z, .string (strOf a), .string (strOf b), .slice B n d] : Array Value)[i]?)) (by kernel_rfl) (fun i => hq0 i) (fun hHeld => ?_)
    refine wpAnyH_take (i := 0) (oi := ⟨some 67, _, _, _, _, _⟩) (v := ?vh4_1) rfl (by kernel_rfl) (by kernel_rfl) (by kernel_rfl) (fun _ _ _ h => h) (Or.inl ⟨by kernel_rfl, ?hyh4_1⟩) (by assumption) ?resth4_1
    case hyh4_1 => (intro w99 hSw; (try dsimp only at hSw); (try go_simp); (try with_reducible rfl); (try omega))
    simp only [Act.put, List.setIfInBounds_toArray, List.set_cons_zero, List.set_cons_succ]
    refine wpAnyH_take (i := 1) (oi := ⟨some 68, _, _, _, _, _⟩) (v := ?vh4_2) rfl (by kernel_rfl) (by kernel_rfl) (by kernel_rfl) (fun _ _ _ h => h) (Or.inl ⟨by kernel_rfl, ?hyh4_2⟩) (by assumption) ?resth4_2
    case hyh4_2 => (intro w99 hSw; (try dsimp only at hSw); (try go_simp); (try with_reducible rfl); (try omega))
    simp only [Act.put, List.setIfInBounds_toArray, List.set_cons_zero, List.set_cons_succ]
    refine wpAnyH_take (i := 2) (oi := ⟨some 69, _, _, _, _, _⟩) (v := ?vh4_3) rfl (by kernel_rfl) (by kernel_rfl) (by kernel_rfl) (fun _ _ _ h => h) (Or.inl ⟨by kernel_rfl, ?hyh4_3⟩) (by assumption) ?resth4_3
    case hyh4_3 => (intro w99 hSw; (try dsimp only at hSw); (try go_simp); (try with_reducible rfl); (try omega))
    simp only [Act.put, List.setIfInBounds_toArray, List.set_cons_zero, List.set_cons_succ]
    refine wpAnyH_take (i := 4) (oi := ⟨some 71, _, _, _, _, _⟩) (v := ?vh4_4) rfl (by kernel_rfl) (by kernel_rfl) (by kernel_rfl) (fun _ _ _ h => h) (Or.inl ⟨by kernel_rfl, ?hyh4_4⟩) (by assumption) ?resth4_4
    case hyh4_4 => (intro w99 hSw; (try dsimp only at hSw); (try go_simp); (try with_reducible rfl); (try omega))
    simp only [Act.put, List.setIfInBounds_toArray, List.set_cons_zero, List.set_cons_succ]
    refine wpAnyH_take (i := 5) (oi := ⟨some 72, _, _, _, _, _⟩) (v := ?vh4_5) rfl (by kernel_rfl) (by kernel_rfl) (by kernel_rfl) (fun _ _ _ h => h) (Or.inl ⟨by kernel_rfl, ?hyh4_5⟩) (by assumption) ?resth4_5
    case hyh4_5 => (intro w99 hSw; (try dsimp only at hSw); (try go_simp); (try with_reducible rfl); (try omega))
    simp only [Act.put, List.setIfInBounds_toArray, List.set_cons_zero, List.set_cons_succ]
    refine wpAnyH_take (i := 6) (oi := ⟨some 73, _, _, _, _, _⟩) (v := ?vh4_6) rfl (by kernel_rfl) (by kernel_rfl) (by kernel_rfl) (fun _ _ _ h => h) (Or.inl ⟨by kernel_rfl, ?hyh4_6⟩) (by assumption) ?resth4_6
    case hyh4_6 => (intro w99 hSw; (try dsimp only at hSw); (try go_simp); (try with_reducible rfl); (try omega))
    simp only [Act.put, List.setIfInBounds_toArray, List.set_cons_zero, List.set_cons_succ]
    refine wpAnyH_ready (rs := [3]) (by kernel_rfl) (by simp) ?_
    refine AllReadyH.cons (o := ⟨some 70, _, _, _, _, _⟩) rfl (fun KQ hKQ => ?w3h4_7) AllReadyH.nil
    case w3h4_7 =>
      go_simp
      go_at_call 26
      have hz := Remove_any XD.out IV.out.ok (by have := OB.out; omega) a
      with_reducible refine hz.mono ?_
      clear hz
      rintro e w1 ⟨rfl, hop⟩
      have OPD := Lib.hid hop
      have KD1 := Lib.hid (show Kept G w0.drew w1 from by obtain ⟨_, _, _, _, _, _, _, _, hk, _⟩ := hop; exact hk)
      have XM1 := Lib.hid (XM.out.far KD1.out (fun hm => (DUD.out.ap _ hm).2 rfl) (fun i hi hm => (DUD.out.ap _ hm).1 hi))
      have Q1 := Lib.hid ((Q0.out.drew).kept KD1.out qG)
      have hq1 := Q1.out.cell
      have RB1 := Lib.hid (RBD.out.kept KD1.out (fun i hi hm => (BG.out i hi).1 hm))
      clear hop
      go_wp2_with fail
      refine hKQ.out _ _ (fun i => Q1.out.cell i) (fun hHeld9 => ?_)
      clear hKQ KQ hHeld
      have hHeld := hHeld9
      clear hHeld9
      try simp only [Act.put, List.setIfInBounds_toArray, List.set_cons_zero, List.set_cons_succ]
      refine wpAnyH_ready (rs := [7]) (by kernel_rfl) (by simp) ?_
      refine AllReadyH.cons (o := ⟨some 74, _, _, _, _, _⟩) rfl (fun KQ hKQ => ?w7h4_8) AllReadyH.nil
      case w7h4_8 =>
        go_simp
        go_at_call 51
        have hz := rRemove_any XM1.out OKM.out a
        rw [← (rem_sim SIM.out IV.out (by have := OB.out; omega) a).1] at hz
        with_reducible refine hz.mono ?_
        clear hz
        rintro e w2 ⟨rfl, hto⟩
        have TM := Lib.hid hto
        have KM2 := Lib.hid (show Kept [p2] w1 w2 from by obtain ⟨_, _, _, _, _, _, _, _, _, _, _, hk, _⟩ := hto; exact hk)
        have Q2 := Lib.hid (Q1.out.kept KM2.out (by simp; exact qp))
        clear hto
        go_wp2_with fail
        refine hKQ.out _ _ (fun i => Q2.out.cell i) (fun hHeld9 => ?_)
        clear hKQ KQ hHeld
        have hHeld := hHeld9
        clear hHeld9
        try simp only [Act.put, List.setIfInBounds_toArray, List.set_cons_zero, List.set_cons_succ]
        refine wpAnyH_take (i := 8) (oi := ⟨some 75, _, _, _, _, _⟩) (v := .bool true) rfl (by kernel_rfl) (by kernel_rfl) (by kernel_rfl) (fun _ _ _ h => h) (Or.inl ⟨by kernel_rfl, ?hyh4_9⟩) (by assumption) ?resth4_9
        case hyh4_9 => (intro w99 hSw; (try dsimp only at hSw); (try go_simp); (try with_reducible rfl); (try omega))
        simp only [Act.put, List.setIfInBounds_toArray, List.set_cons_zero, List.set_cons_succ]
        refine wpAnyH_take (i := 9) (oi := ⟨some 6, _, _, _, _, _⟩) (v := ?vh4_10) rfl (by kernel_rfl) (by kernel_rfl) (by kernel_rfl) (fun _ _ _ h => h) (Or.inl ⟨by kernel_rfl, ?hyh4_10⟩) (by assumption) ?resth4_10
        case hyh4_10 => (intro w99 hSw; (try dsimp only at hSw); (try go_simp); (try with_reducible rfl); (try omega))
        simp only [Act.put, List.setIfInBounds_toArray, List.set_cons_zero, List.set_cons_succ]
        refine wpAnyH_done (by kernel_rfl) ?_ _
        clear hHeld
        go_wp2
        go_ret
        exact ⟨rfl, _, _, (DoTo.mk DUD.out OPD.out TM.out).pre KD.out, rem_inv IV.out _, (rem_sim SIM.out IV.out (by have := OB.out; omega) a).2, by rw [rem_ops]; omega⟩
  · go_enter Try.func29, Try.ntmps29
    go_upto_region 15 with fail
    try rw [hw0]
    have DUD := Lib.hid (DU.out.go ((Kept.refl [] w0).drew))
    have KD := Lib.hid (K0.out.trans ((Kept.refl [] w0).drew) (by simp) : Kept [] w w0.drew)
    have RBD := Lib.hid (RB.out.kept ((Kept.refl [] w0).drew) (by simp))
    obtain ⟨fb, bn, bs, A, m, c, xd⟩ := DUD.out.d
    obtain ⟨vs, A1, c1, A2, c2, A3, c3, A4, c4, xm⟩ := DUD.out.m
    have XD := Lib.hid xd
    have XM := Lib.hid xm
    clear xd xm
    refine wp_region_held_drew (S := (fun w' => ∀ i, w'.cell? ⟨w.heap.size, i, none⟩ = (#[.int .i64 5, .int .i64 z, .string (strOf a), .string (strOf b), .slice B n d] : Array Value)[i]?)) (by kernel_rfl) (fun i => hq0 i) (fun hHeld => ?_)
    refine wpAnyH_take (i := 0) (oi := ⟨some 78, _, _, _, _, _⟩) (v := ?vh5_1) rfl (by kernel_rfl) (by kernel_rfl) (by kernel_rfl) (fun _ _ _ h => h) (Or.inl ⟨by kernel_rfl, ?hyh5_1⟩) (by assumption) ?resth5_1
    case hyh5_1 => (intro w99 hSw; (try dsimp only at hSw); (try go_simp); (try with_reducible rfl); (try omega))
    simp only [Act.put, List.setIfInBounds_toArray, List.set_cons_zero, List.set_cons_succ]
    refine wpAnyH_take (i := 1) (oi := ⟨some 79, _, _, _, _, _⟩) (v := ?vh5_2) rfl (by kernel_rfl) (by kernel_rfl) (by kernel_rfl) (fun _ _ _ h => h) (Or.inl ⟨by kernel_rfl, ?hyh5_2⟩) (by assumption) ?resth5_2
    case hyh5_2 => (intro w99 hSw; (try dsimp only at hSw); (try go_simp); (try with_reducible rfl); (try omega))
    simp only [Act.put, List.setIfInBounds_toArray, List.set_cons_zero, List.set_cons_succ]
    refine wpAnyH_take (i := 2) (oi := ⟨some 80, _, _, _, _, _⟩) (v := ?vh5_3) rfl (by kernel_rfl) (by kernel_rfl) (by kernel_rfl) (fun _ _ _ h => h) (Or.inl ⟨by kernel_rfl, ?hyh5_3⟩) (by assumption) ?resth5_3
    case hyh5_3 => (intro w99 hSw; (try dsimp only at hSw); (try go_simp); (try with_reducible rfl); (try omega))
    simp only [Act.put, List.setIfInBounds_toArray, List.set_cons_zero, List.set_cons_succ]
    refine wpAnyH_take (i := 3) (oi := ⟨some 81, _, _, _, _, _⟩) (v := ?vh5_4) rfl (by kernel_rfl) (by kernel_rfl) (by kernel_rfl) (fun _ _ _ h => h) (Or.inl ⟨by kernel_rfl, ?hyh5_4⟩) (by assumption) ?resth5_4
    case hyh5_4 => (intro w99 hSw; (try dsimp only at hSw); (try go_simp); (try with_reducible rfl); (try omega))
    simp only [Act.put, List.setIfInBounds_toArray, List.set_cons_zero, List.set_cons_succ]
    refine wpAnyH_take (i := 4) (oi := ⟨some 82, _, _, _, _, _⟩) (v := ?vh5_5) rfl (by kernel_rfl) (by kernel_rfl) (by kernel_rfl) (fun _ _ _ h => h) (Or.inl ⟨by kernel_rfl, ?hyh5_5⟩) (by assumption) ?resth5_5
    case hyh5_5 => (intro w99 hSw; (try dsimp only at hSw); (try go_simp); (try with_reducible rfl); (try omega))
    simp only [Act.put, List.setIfInBounds_toArray, List.set_cons_zero, List.set_cons_succ]
    refine wpAnyH_take (i := 6) (oi := ⟨some 84, _, _, _, _, _⟩) (v := ?vh5_6) rfl (by kernel_rfl) (by kernel_rfl) (by kernel_rfl) (fun _ _ _ h => h) (Or.inl ⟨by kernel_rfl, ?hyh5_6⟩) (by assumption) ?resth5_6
    case hyh5_6 => (intro w99 hSw; (try dsimp only at hSw); (try go_simp); (try with_reducible rfl); (try omega))
    simp only [Act.put, List.setIfInBounds_toArray, List.set_cons_zero, List.set_cons_succ]
    refine wpAnyH_take (i := 7) (oi := ⟨some 85, _, _, _, _, _⟩) (v := ?vh5_7) rfl (by kernel_rfl) (by kernel_rfl) (by kernel_rfl) (fun _ _ _ h => h) (Or.inl ⟨by kernel_rfl, ?hyh5_7⟩) (by assumption) ?resth5_7
    case hyh5_7 => (intro w99 hSw; (try dsimp only at hSw); (try go_simp); (try with_reducible rfl); (try omega))
    simp only [Act.put, List.setIfInBounds_toArray, List.set_cons_zero, List.set_cons_succ]
    refine wpAnyH_take (i := 8) (oi := ⟨some 86, _, _, _, _, _⟩) (v := ?vh5_8) rfl (by kernel_rfl) (by kernel_rfl) (by kernel_rfl) (fun _ _ _ h => h) (Or.inl ⟨by kernel_rfl, ?hyh5_8⟩) (by assumption) ?resth5_8
    case hyh5_8 => (intro w99 hSw; (try dsimp only at hSw); (try go_simp); (try with_reducible rfl); (try omega))
    simp only [Act.put, List.setIfInBounds_toArray, List.set_cons_zero, List.set_cons_succ]
    refine wpAnyH_take (i := 9) (oi := ⟨some 87, _, _, _, _, _⟩) (v := ?vh5_9) rfl (by kernel_rfl) (by kernel_rfl) (by kernel_rfl) (fun _ _ _ h => h) (Or.inl ⟨by kernel_rfl, ?hyh5_9⟩) (by assumption) ?resth5_9
    case hyh5_9 => (intro w99 hSw; (try dsimp only at hSw); (try go_simp); (try with_reducible rfl); (try omega))
    simp only [Act.put, List.setIfInBounds_toArray, List.set_cons_zero, List.set_cons_succ]
    refine wpAnyH_take (i := 10) (oi := ⟨some 88, _, _, _, _, _⟩) (v := ?vh5_10) rfl (by kernel_rfl) (by kernel_rfl) (by kernel_rfl) (fun _ _ _ h => h) (Or.inl ⟨by kernel_rfl, ?hyh5_10⟩) (by assumption) ?resth5_10
    case hyh5_10 => (intro w99 hSw; (try dsimp only at hSw); (try go_simp); (try with_reducible rfl); (try omega))
    simp only [Act.put, List.setIfInBounds_toArray, List.set_cons_zero, List.set_cons_succ]
    refine wpAnyH_ready (rs := [5]) (by kernel_rfl) (by simp) ?_
    refine AllReadyH.cons (o := ⟨some 83, _, _, _, _, _⟩) rfl (fun KQ hKQ => ?w5h5_11) AllReadyH.nil
    case w5h5_11 =>
      go_simp
      go_at_call 27
      have hz := Cut_any XD.out IV.out.ok (by have := OB.out; omega) a z
      with_reducible refine hz.mono ?_
      clear hz
      rintro e w1 ⟨rfl, hop⟩
      have OPD := Lib.hid hop
      have KD1 := Lib.hid (show Kept G w0.drew w1 from by obtain ⟨_, _, _, _, _, _, _, _, hk, _⟩ := hop; exact hk)
      have XM1 := Lib.hid (XM.out.far KD1.out (fun hm => (DUD.out.ap _ hm).2 rfl) (fun i hi hm => (DUD.out.ap _ hm).1 hi))
      have Q1 := Lib.hid ((Q0.out.drew).kept KD1.out qG)
      have hq1 := Q1.out.cell
      have RB1 := Lib.hid (RBD.out.kept KD1.out (fun i hi hm => (BG.out i hi).1 hm))
      clear hop
      go_wp2_with fail
      refine hKQ.out _ _ (fun i => Q1.out.cell i) (fun hHeld9 => ?_)
      clear hKQ KQ hHeld
      have hHeld := hHeld9
      clear hHeld9
      try simp only [Act.put, List.setIfInBounds_toArray, List.set_cons_zero, List.set_cons_succ]
      refine wpAnyH_ready (rs := [11]) (by kernel_rfl) (by simp) ?_
      refine AllReadyH.cons (o := ⟨some 89, _, _, _, _, _⟩) rfl (fun KQ hKQ => ?w11h5_12) AllReadyH.nil
      case w11h5_12 =>
        go_simp
        go_at_call 52
        have hz := rCut_any XM1.out OKM.out a z
        rw [← (cut_sim SIM.out IV.out (by have := OB.out; omega) a z).1] at hz
        with_reducible refine hz.mono ?_
        clear hz
        rintro e w2 ⟨rfl, hto⟩
        have TM := Lib.hid hto
        have KM2 := Lib.hid (show Kept [p2] w1 w2 from by obtain ⟨_, _, _, _, _, _, _, _, _, _, _, hk, _⟩ := hto; exact hk)
        have Q2 := Lib.hid (Q1.out.kept KM2.out (by simp; exact qp))
        clear hto
        go_wp2_with fail
        refine hKQ.out _ _ (fun i => Q2.out.cell i) (fun hHeld9 => ?_)
        clear hKQ KQ hHeld
        have hHeld := hHeld9
        clear hHeld9
        try simp only [Act.put, List.setIfInBounds_toArray, List.set_cons_zero, List.set_cons_succ]
        refine wpAnyH_take (i := 12) (oi := ⟨some 90, _, _, _, _, _⟩) (v := .bool true) rfl (by kernel_rfl) (by kernel_rfl) (by kernel_rfl) (fun _ _ _ h => h) (Or.inl ⟨by kernel_rfl, ?hyh5_13⟩) (by assumption) ?resth5_13
        case hyh5_13 => (intro w99 hSw; (try dsimp only at hSw); (try go_simp); (try with_reducible rfl); (try omega))
        simp only [Act.put, List.setIfInBounds_toArray, List.set_cons_zero, List.set_cons_succ]
        refine wpAnyH_take (i := 13) (oi := ⟨some 6, _, _, _, _, _⟩) (v := ?vh5_14) rfl (by kernel_rfl) (by kernel_rfl) (by kernel_rfl) (fun _ _ _ h => h) (Or.inl ⟨by kernel_rfl, ?hyh5_14⟩) (by assumption) ?resth5_14
        case hyh5_14 => (intro w99 hSw; (try dsimp only at hSw); (try go_simp); (try with_reducible rfl); (try omega))
        simp only [Act.put, List.setIfInBounds_toArray, List.set_cons_zero, List.set_cons_succ]
        refine wpAnyH_done (by kernel_rfl) ?_ _
        clear hHeld
        go_wp2
        go_ret
        exact ⟨rfl, _, _, (DoTo.mk DUD.out OPD.out TM.out).pre KD.out, cut_inv IV.out _ _, (cut_sim SIM.out IV.out (by have := OB.out; omega) a z).2, by rw [cut_ops]; omega⟩
  · have DUD := Lib.hid DU.out
    have KD := Lib.hid K0.out
    have RBD := Lib.hid RB.out
    obtain ⟨fb, bn, bs, A, m, c, xd⟩ := DUD.out.d
    obtain ⟨vs, A1, c1, A2, c2, A3, c3, A4, c4, xm⟩ := DUD.out.m
    have XD := Lib.hid xd
    have XM := Lib.hid xm
    clear xd xm
    go_enter Try.func29, Try.ntmps29
    go_wp2_with (first
      | (go_at_call 19
         refine (Fail_any XD.out IV.out.ok.ops (by have := OB.out; omega) z).mono ?_
         rintro e w1 ⟨rfl, hop, hk⟩
         have OPD := Lib.hid (show DkOp w0 G p (faiD D z) w1 from ⟨_, DkTo.of hop (hk.mono (fun i hi => .inl (by simp at hi; subst hi; exact XD.out.inp)))⟩)
         have KD1 := Lib.hid (hk.mono (fun i hi => .inl (by simp at hi; subst hi; exact XD.out.inp)) : Kept G w0 w1)
         have XM1 := Lib.hid (XM.out.far KD1.out (fun hm => (DUD.out.ap _ hm).2 rfl) (fun i hi hm => (DUD.out.ap _ hm).1 hi))
         have Q1 := Lib.hid (Q0.out.kept KD1.out qG)
         have hq1 := Q1.out.cell
         clear hop hk)
      | (go_at_call 53
         refine (rFail_any XM1.out z).mono ?_
         rintro e w2 ⟨rfl, hop, hk⟩
         have TM := Lib.hid (hop.to hk)
         clear hop hk))
    go_ret
    exact ⟨rfl, _, _, (DoTo.mk DUD.out OPD.out TM.out).pre KD.out, fai_inv IV.out _, ⟨σ, fai_sim SIM.out IV.out (by have := OB.out; omega) ZB.out⟩, by unfold faiD; simp only; omega⟩
  · have DUD := Lib.hid DU.out
    have KD := Lib.hid K0.out
    have RBD := Lib.hid RB.out
    obtain ⟨fb, bn, bs, A, m, c, xd⟩ := DUD.out.d
    obtain ⟨vs, A1, c1, A2, c2, A3, c3, A4, c4, xm⟩ := DUD.out.m
    have XD := Lib.hid xd
    have XM := Lib.hid xm
    clear xd xm
    go_enter Try.func29, Try.ntmps29
    go_wp2_with (first
      | (go_at_call 24
         refine (Crash_any XD.out IV.out.ok (by have := OB.out; omega) IV.out.run raw RBD.out (fun i hi => (BG.out i hi).1) (fun i hi => Nat.lt_of_lt_of_le (BG.out i hi).2.2 K0.out.size)).mono ?_
         rintro e w1 ⟨rfl, hop⟩
         have OPD := Lib.hid hop
         have KD1 := Lib.hid (show Kept G w0 w1 from by obtain ⟨_, _, _, _, _, _, _, _, hk, _⟩ := hop; exact hk)
         have XM1 := Lib.hid (XM.out.far KD1.out (fun hm => (DUD.out.ap _ hm).2 rfl) (fun i hi hm => (DUD.out.ap _ hm).1 hi))
         have Q1 := Lib.hid (Q0.out.kept KD1.out qG)
         have hq1 := Q1.out.cell
         have RB1 := Lib.hid (RBD.out.kept KD1.out (fun i hi hm => (BG.out i hi).1 hm))
         clear hop)
      | (go_at_call 54
         refine (rCrash_any XM1.out OKM.out RB1.out (fun hm => (BG.out _ hm).2.1 rfl)).mono ?_
         rintro e w2 ⟨rfl, hop⟩
         have TM := Lib.hid hop
         clear hop))
    go_ret
    exact ⟨rfl, _, _, (DoTo.mk DUD.out OPD.out TM.out).pre KD.out, cra_inv IV.out _, ⟨σ, cra_sim SIM.out IV.out _⟩, by rw [cra_ops]; omega⟩
end Go.Proofs.Ythdjdfdefibepaa
