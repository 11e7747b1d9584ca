/-
  The walk of OctetWidths.
-/
import Derived.Test.YticjcmjodnedjaaLawB
namespace Go.Proofs.Yticjcmjodnedjaa
open Go.RowKit Go.ChangeShapes Go.WideShapes
set_option linter.unusedVariables false

def pre (l : List CallD) (k : Nat) : Nat := ((l.take k).map fun c => c.raw.length + 1).sum
theorem pre_succ {l : List CallD} {k : Nat} {c : CallD} (h : l[k]? = some c) : pre l (k + 1) = pre l k + c.raw.length + 1 := by
  obtain ⟨hk, rfl⟩ := List.getElem?_eq_some_iff.1 h
  unfold pre
  rw [List.take_succ_eq_append_getElem hk, List.map_append, List.sum_append]
  simp; omega
theorem pre_le (l : List CallD) (k : Nat) : pre l k ≤ (l.map fun c => c.raw.length + 1).sum := take_sum l k

/-- what the loop of OctetWidths keeps -/
def LoopV (W : World) (b : Nat) (bs : List UInt8) (wr : World) : Prop :=
  ∃ v, Wr wr b v bs ∧ W.heap.size ≤ b ∧ (∀ k ∈ rowOf v, W.heap.size ≤ k) ∧ Kept [] W wr
theorem LoopV.alloc {W : World} {b : Nat} {bs : List UInt8} {wr : World} (h : LoopV W b bs wr) (o : Obj) : LoopV W b bs (wr.alloc o) := by
  obtain ⟨v, a1, a2, a3, a4⟩ := h
  have hk : Kept [] wr (wr.alloc o) := (Kept.refl _ _).alloc _
  exact ⟨v, a1.kept hk (by simp) (by simp), a2, a3, a4.alloc o⟩
theorem LoopV.step {W : World} {b : Nat} {v : Value} {bs bs' : List UInt8} {w w' : World} (hb : W.heap.size ≤ b) (hv : ∀ k ∈ rowOf v, W.heap.size ≤ k) (hk : Kept [] W w) (h : WrTo w b v bs' w') : LoopV W b bs' w' ∧ ∀ k ∈ b :: rowOf v, W.heap.size ≤ k := by
  obtain ⟨v', a1, a2, a3⟩ := h
  have hS : ∀ k ∈ b :: rowOf v, W.heap.size ≤ k := by
    intro k hk
    rcases List.mem_cons.1 hk with rfl | hk
    · exact hb
    · exact hv k hk
  refine ⟨⟨v', a1, hb, fun k hk' => ?_, hk.trans a2 (fun i hi => .inr (hS i hi))⟩, hS⟩
  rcases a3 k hk' with h3 | h3
  · exact hv k h3
  · have := hk.size; omega

set_option maxHeartbeats 1600000 in
set_option maxRecDepth 100000 in
theorem OctetWidths_loop (W : World) (v0 : Value) (l : List CallD) (h : ArrOf W (old W) 3 (CallDec (old W)) v0 l) (hs : (l.map fun c => c.raw.length + 1).sum ≤ 1048576) :
    Calls Try.prog 4 #[v0] W fun e W' => e = .returned (.bool true) ∧ Below W.heap.size W W' := by
  obtain ⟨A, m, c, rfl, h1, h2, h3, h4, h5⟩ := h
  have H1 := Lib.hid h1
  have H4 := Lib.hid h4
  have H5 := Lib.hid h5
  have Hs := Lib.hid hs
  clear h1 h4 h5 hs
  unfold maxLen at h3
  go_enter Try.func4, Try.ntmps4
  go_wp2
  go_loopg [4, 11] m (fun g n i wr => ∃ k : Nat, k ≤ m ∧ k ≤ 60 ∧ g = m - k ∧ i = .int .i64 k ∧ ∃ bs : List UInt8, n = .int .i64 (bs.length : Nat) ∧ bs.length ≤ pre l k + 8 * k ∧ LoopV W W.heap.size bs wr)
  case atStart => exact ⟨0, by omega, by omega, by omega, rfl, [], rfl, by simp, _, Wr.new W, by omega, by simp [rowOf, Value.ownBlock], (Kept.refl [] W).alloc _⟩
  case round =>
    obtain ⟨k, hk, hk6, rfl, rfl, bs, rfl, hbs, hl⟩ := hrel
    have Hl := Lib.hid hl
    have hpre : pre l k ≤ 1048576 := Nat.le_trans (pre_le l k) Hs.out
    clear hl
    by_cases hlt : k < m
    · obtain ⟨g, o, rfl, hg1, hg2, hg3⟩ := H5.out (by rintro rfl; have := H1.out; simp at this; omega)
      have hck : l[k]? = some (l[k]'(by rw [H1.out]; exact hlt)) := List.getElem?_eq_getElem _
      obtain ⟨cs, hcs, ⟨rv, rfl, hrd, hn0, hn1⟩, hcell⟩ := hg3 k _ hck
      have Hps := Lib.hid (pre_succ hck)
      have hraw : (l[k]'(by rw [H1.out]; exact hlt)).raw.length ≤ 1048576 := by
        have a1 := Hps.out
        have a2 := pre_le l (k + 1)
        have := Hs.out
        omega
      generalize (l[k]'(by rw [H1.out]; exact hlt)) = cc at *
      obtain ⟨v, hw, hv1, hv2, hkw⟩ := Hl.out
      have hc0 := (hkw.cell (p := ⟨g, o + (k * 3 + 0), none⟩) hg2 (by simp)).trans (hcell 0 (by omega))
      have hc1 := (hkw.cell (p := ⟨g, o + (k * 3 + 1), none⟩) hg2 (by simp)).trans (hcell 1 (by omega))
      have hc2 := (hkw.cell (p := ⟨g, o + (k * 3 + 2), none⟩) hg2 (by simp)).trans (hcell 2 (by omega))
      simp only [List.getElem?_cons_zero, List.getElem?_cons_succ, Nat.add_zero] at hc0 hc1 hc2
      rw [← Nat.add_assoc] at hc1 hc2
      have hgw : g < wr.heap.size := Nat.lt_of_lt_of_le hg2 hkw.size
      obtain ⟨rA, rm, rc, rfl, hrm, hrmc, hrcm, -⟩ := id hrd
      have Hst : Hid (∀ (cs : Array Value), Wr (wr.alloc (.cells cs 28)) W.heap.size v bs ∧ Kept [] W (wr.alloc (.cells cs 28))) := fun cs => ⟨hw.kept (S := []) ((Kept.refl _ _).alloc _) (by simp) (by simp), hkw.alloc _⟩
      have Hrd : Hid (∀ (cs : Array Value), Rd (wr.alloc (.cells cs 28)) rA (u8s cc.raw)) := fun cs => ((hrd.kept hkw (by simp)).kept (S := []) ((Kept.refl _ _).alloc _) (by simp)).rd
      have Hcb : Hid (∀ (cs : Array Value) w3, Kept (W.heap.size :: rowOf v) (wr.alloc (.cells cs 28)) w3 → Blk w3 wr.heap.size 28 cs) := fun cs w3 hk3 => (Blk.new wr _ cs).kept hk3 (by
        intro hm
        rcases List.mem_cons.1 hm with hm | hm
        · have := hw.blk.lt; omega
        · have := hw.own.lt _ hm; omega)
      have Hv1 := Lib.hid hv1
      have Hv2 := Lib.hid hv2
      have hrm' : (cc.raw.length : Int) = (rm : Int) := by rw [hrm]
      clear hcell hrd hg3 hck hcs hw hkw hv1 hv2 hrm
      by_cases h60 : k < 60
      · have hd5 : (cc.to == 0) = true ∨ ((cc.to == 0) = false ∧ (cc.to == 1) = true) ∨ ((cc.to == 0) = false ∧ (cc.to == 1) = false ∧ (cc.to == 2) = true) ∨ ((cc.to == 0) = false ∧ (cc.to == 1) = false ∧ (cc.to == 2) = false ∧ (cc.to == 3) = true) ∨ ((cc.to == 0) = false ∧ (cc.to == 1) = false ∧ (cc.to == 2) = false ∧ (cc.to == 3) = false) := by
          cases cc.to == 0 <;> cases cc.to == 1 <;> cases cc.to == 2 <;> cases cc.to == 3 <;> simp
        have hu : IntKind.u32.wrap cc.n = ((nat64 cc.n % 4294967296 : Nat) : Int) := by rw [IntKind.wrap_u32]; have := nat64_cast cc.n; omega
        have huu : nat64 cc.n % 4294967296 < 4294967296 := by omega
        rcases hd5 with te0 | ⟨te0, te1⟩ | ⟨te0, te1, te2⟩ | ⟨te0, te1, te2, te3⟩ | ⟨te0, te1, te2, te3⟩
        all_goals
          go_wp2_with (first
            | (go_at_call 15; refine (WU8_any _ _ _ _ (Hst.out _).1 _ (by omega)).mono ?_; rintro e w3 ⟨rfl, h3⟩; have Hlv := Lib.hid (LoopV.step (bs := bs) Hv1.out Hv2.out (Hst.out _).2 h3).1; have hlen3 : ((bs ++ beK (nat64 cc.n) 1 1).length : Int) = (bs.length : Int) + 1 := (by simp [beK_len]); generalize bs ++ beK (nat64 cc.n) 1 1 = bs3 at *; clear h3; obtain ⟨v3, hw3, -, -, -⟩ := Hlv.out; have Hw3 := Lib.hid hw3; clear hw3)
            | (go_at_call 16; refine (WU16_any _ _ _ _ (Hst.out _).1 _ (by omega)).mono ?_; rintro e w3 ⟨rfl, h3⟩; have Hlv := Lib.hid (LoopV.step (bs := bs) Hv1.out Hv2.out (Hst.out _).2 h3).1; have hlen3 : ((bs ++ beK (nat64 cc.n) 2 2).length : Int) = (bs.length : Int) + 2 := (by simp [beK_len]); generalize bs ++ beK (nat64 cc.n) 2 2 = bs3 at *; clear h3; obtain ⟨v3, hw3, -, -, -⟩ := Hlv.out; have Hw3 := Lib.hid hw3; clear hw3)
            | (go_at_call 18; refine (WU32_any _ _ _ _ (Hst.out _).1 (nat64 cc.n % 4294967296) (by omega) (by omega)).mono ?_; rintro e w3 ⟨rfl, h3⟩; have Hlv := Lib.hid (LoopV.step (bs := bs) Hv1.out Hv2.out (Hst.out _).2 h3).1; have hlen3 : ((bs ++ beK (nat64 cc.n % 4294967296) 4 4).length : Int) = (bs.length : Int) + 4 := (by simp [beK_len]); generalize bs ++ beK (nat64 cc.n % 4294967296) 4 4 = bs3 at *; clear h3; obtain ⟨v3, hw3, -, -, -⟩ := Hlv.out; have Hw3 := Lib.hid hw3; clear hw3)
            | (go_at_call 20; refine (WI64_any _ _ _ _ (Hst.out _).1 _ (by omega)).mono ?_; rintro e w3 ⟨rfl, h3⟩; have Hlv := Lib.hid (LoopV.step (bs := bs) Hv1.out Hv2.out (Hst.out _).2 h3).1; have hlen3 : ((bs ++ beK (nat64 cc.n) 8 8).length : Int) = (bs.length : Int) + 8 := (by simp [beK_len]); generalize bs ++ beK (nat64 cc.n) 8 8 = bs3 at *; clear h3; obtain ⟨v3, hw3, -, -, -⟩ := Hlv.out; have Hw3 := Lib.hid hw3; clear hw3)
            | (go_at_call 22; refine (WRaw_any _ _ _ _ cc.raw (Hst.out _).1 _ _ _ (Hrd.out _) (by omega) (by omega)).mono ?_; rintro e w3 ⟨rfl, h3⟩; have hd2 := (Hcb.out _ _ (show Kept _ _ _ from (by obtain ⟨_, _, q, _⟩ := h3; exact q))).cell 2; simp only [List.getElem?_toArray, List.getElem?_cons_zero, List.getElem?_cons_succ] at hd2; have Hlv := Lib.hid (LoopV.step (bs := bs) Hv1.out Hv2.out (Hst.out _).2 h3).1; have hlen3 : ((bs ++ cc.raw).length : Int) = (bs.length : Int) + (rm : Int) := (by rw [List.length_append]; omega); generalize bs ++ cc.raw = bs3 at *; clear h3; obtain ⟨v3, hw3, -, -, -⟩ := Hlv.out; have Hw3 := Lib.hid hw3; clear hw3)
            | (go_at_call 23; refine (Len_any _ _ _ _ Hw3.out).mono ?_; rintro e w5 ⟨rfl, rfl⟩)
            | (go_at_call 24; refine (Bytes_any _ _ _ _ Hw3.out (by omega)).mono ?_; rintro e w6 ⟨v6, rfl, g1, g2, g3⟩; obtain ⟨A6, c6, rfl, _, _⟩ := g1.form; have G2 := Lib.hid g2; clear g1 g2 g3))
          go_roundg (m - (k + 1))
          case measure => omega
          case rel =>
            refine ⟨k + 1, by omega, by omega, rfl, by go_num, bs3, by rw [hlen3], ?_, ?_⟩
            · have := Hps.out; omega
            · obtain ⟨v7, q1, q2, q3, q4⟩ := Hlv.out
              exact ⟨v7, q1.kept G2.out (by simp) (by simp), q2, q3, q4.trans G2.out (by simp)⟩
      · go_wp2_with (go_at_call 25; refine (awake2_any _).mono ?_; rintro e w5 ⟨rfl, g4⟩; have G5 := Lib.hid g4; clear g4)
        go_ret
        exact ⟨rfl, ((Hst.out _).2.trans G5.out (by simp)).below (Nat.le_refl _) (by simp)⟩
    · obtain ⟨v, hw, hv1, hv2, hkw⟩ := Hl.out
      have Hkw := Lib.hid hkw
      clear hw hv1 hv2 hkw
      go_wp2_with (go_at_call 25; refine (awake2_any _).mono ?_; rintro e w5 ⟨rfl, g4⟩; have G5 := Lib.hid g4; clear g4)
      go_ret
      exact ⟨rfl, (Hkw.out.trans G5.out (by simp)).below (Nat.le_refl _) (by simp)⟩

theorem OctetWidths_walk {H : Type} {enc : TypeId × Value → H} (W : World) (base : Nat) (v0 : Value) (d0 : DataW H) (p0 : List MemPlace)
    (hv0 : Value.okWide Try.prog W .any base 22 v0)
    (h0 : DataW.Trod enc Try.prog W 0 (fun _ => true) true 22 v0 d0 p0) (hk : Rows.uptoBulkAll ([d0] ++ []) ≤ 1048576) :
    Calls Try.prog 4 #[v0] W fun e W' => e = .returned (.bool true) ∧ Below W.heap.size W W' := by
  obtain ⟨l, hl, hs⟩ := open_calls hv0 h0
  refine OctetWidths_loop W v0 l hl ?_
  simp only [List.append_nil, Rows.uptoBulkAll] at hk
  omega
end Go.Proofs.Yticjcmjodnedjaa
