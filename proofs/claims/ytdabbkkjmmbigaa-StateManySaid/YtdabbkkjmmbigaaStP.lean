
/-
  Many flows, many drains: plain laws.
-/
import Derived.Test.YtdabbkkjmmbigaaStM
namespace Go.Proofs.Ytdabbkkjmmbigaa
open Go.RowKit
set_option linter.unusedVariables false

def tM (i : Nat) : TupD := ⟨UInt32.ofNat i, 0, 17, 0, 0⟩
def rM (i : Nat) : RecD := { (default : RecD) with kind := 1, tup := tM i }
def rD (i : Nat) (u : Int) : RecD := { (default : RecD) with kind := 4, back := i, until_ := u }
def flM (n : Nat) : List (TupD × FlD) := (List.range n).map fun j => (tM j, flowR (rM j))
def drM (n : Nat) : List (Int × Int) := (List.range n).map fun (j : Nat) => ((j : Int), (5 : Int))
def stM (i k : Nat) : StD := ⟨0, [], drM (min k 16), flM (min i 256)⟩
theorem tM_inj {i j : Nat} (hi : i < 1000) (hj : j < 1000) (h : tM i = tM j) : i = j := by
  unfold tM at h
  injection h with h1
  have := congrArg UInt32.toNat h1
  simp at this
  omega
theorem flM_none {n i : Nat} (h : n ≤ i) (hi : i < 1000) : getM (flM n) (tM i) = none := by
  rw [getM_none]
  intro p hp e
  obtain ⟨j, hj, rfl⟩ := List.mem_map.1 hp
  rw [List.mem_range] at hj
  have := tM_inj (by omega) hi e
  omega
theorem drM_none {n i : Nat} (h : n ≤ i) : getM (drM n) (i : Int) = none := by
  rw [getM_none]
  intro p hp e
  obtain ⟨j, hj, rfl⟩ := List.mem_map.1 hp
  rw [List.mem_range] at hj
  simp at e
  omega
theorem flM_len (n : Nat) : (flM n).length = n := by simp [flM]
theorem drM_len (n : Nat) : (drM n).length = n := by simp [drM]
theorem rM_ok (i : Nat) : badS (rM i) = false := by rfl
theorem rD_ok (i : Nat) (u : Int) (hi : i < 1000) (hu : 0 ≤ u ∧ u ≤ 1000) : badS (rD i u) = false := by
  have h : mayR (rD i u) = true := by
    unfold mayR
    rw [if_neg (show ¬ (rD i u).kind = 1 by simp [rD]), if_neg (show ¬ (rD i u).kind = 2 by simp [rD]), if_neg (show ¬ (rD i u).kind = 3 by simp [rD]), if_pos (show (rD i u).kind = 4 from rfl)]
    show (inB (i : Int) 65535 && timeB u) = true
    unfold timeB inB
    rw [decide_eq_true (show (0 : Int) ≤ (i : Int) by omega), decide_eq_true (show (i : Int) ≤ 65535 by omega), decide_eq_true hu.1, decide_eq_true (show u ≤ 1099511627776 by omega)]; rfl
  unfold badS
  rw [h]
  rfl
theorem put_new {κ ν : Type} [DecidableEq κ] {m : List (κ × ν)} {x : κ} {v : ν} (h : getM m x = none) : putM m x v = m ++ [(x, v)] := by unfold putM; rw [h]; rfl
theorem put_step (i : Nat) (hi : i < 300) : errS (stM i 0) (rM i) = (if i < 256 then 0 else 9) ∧ applyS (stM i 0) (rM i) = stM (i + 1) 0 := by
  have hn : getM (stM i 0).flows (rM i).tup = none := flM_none (by omega) (by omega)
  by_cases h : i < 256
  · have hf : fullS (stM i 0) (rM i) = false := by
      unfold fullS
      rw [if_pos (show (rM i).kind = 1 from rfl), hn]
      show (true && decide (256 ≤ (flM (min i 256)).length)) = false
      rw [flM_len]; simp; omega
    obtain ⟨h1, h2⟩ := apply_good (rM_ok i) hf
    refine ⟨by rw [h1, if_pos h], ?_⟩
    rw [h2]
    show ({ stM i 0 with flows := putM (stM i 0).flows (rM i).tup (flowR (rM i)) } : StD) = _
    rw [put_new hn]
    unfold stM
    rw [StD.mk.injEq]
    refine ⟨rfl, rfl, rfl, ?_⟩
    show flM (min i 256) ++ [(tM i, flowR (rM i))] = flM (min (i + 1) 256)
    rw [Nat.min_eq_left (by omega), Nat.min_eq_left (by omega)]
    unfold flM
    rw [List.range_succ, List.map_append]; rfl
  · have hf : fullS (stM i 0) (rM i) = true := by
      unfold fullS
      rw [if_pos (show (rM i).kind = 1 from rfl), hn]
      show (true && decide (256 ≤ (flM (min i 256)).length)) = true
      rw [flM_len]; simp; omega
    obtain ⟨h1, h2⟩ := apply_full (rM_ok i) hf
    refine ⟨by rw [h1, if_neg h], ?_⟩
    rw [h2]
    unfold stM
    rw [Nat.min_eq_right (a := i) (b := 256) (by omega), Nat.min_eq_right (a := i + 1) (b := 256) (by omega)]
theorem drain_step (n i : Nat) (hi : i < 100) : errS (stM n i) (rD i 5) = (if i < 16 then 0 else 9) ∧ applyS (stM n i) (rD i 5) = stM n (i + 1) := by
  have hn : getM (stM n i).drains (rD i 5).back = none := drM_none (by omega)
  have hb := rD_ok i 5 (by omega) (by omega)
  by_cases h : i < 16
  · have hf : fullS (stM n i) (rD i 5) = false := by
      unfold fullS
      rw [if_neg (by simp [rD]), if_pos (show (rD i 5).kind = 4 from rfl), hn]
      show (true && decide (16 ≤ (drM (min i 16)).length)) = false
      rw [drM_len]; simp; omega
    obtain ⟨h1, h2⟩ := apply_good hb hf
    refine ⟨by rw [h1, if_pos h], ?_⟩
    rw [h2]
    show ({ stM n i with drains := putM (stM n i).drains (rD i 5).back 5 } : StD) = _
    rw [put_new hn]
    unfold stM
    rw [StD.mk.injEq]
    refine ⟨rfl, rfl, ?_, rfl⟩
    show drM (min i 16) ++ [((i : Int), (5 : Int))] = drM (min (i + 1) 16)
    rw [Nat.min_eq_left (by omega), Nat.min_eq_left (by omega)]
    unfold drM
    rw [List.range_succ, List.map_append]; rfl
  · have hf : fullS (stM n i) (rD i 5) = true := by
      unfold fullS
      rw [if_neg (by simp [rD]), if_pos (show (rD i 5).kind = 4 from rfl), hn]
      show (true && decide (16 ≤ (drM (min i 16)).length)) = true
      rw [drM_len]; simp; omega
    obtain ⟨h1, h2⟩ := apply_full hb hf
    refine ⟨by rw [h1, if_neg h], ?_⟩
    rw [h2]
    unfold stM
    rw [Nat.min_eq_right (a := i) (b := 16) (by omega), Nat.min_eq_right (a := i + 1) (b := 16) (by omega)]
/-- the last two: what is there changes -/
def rX : RecD := { (default : RecD) with kind := 1, tup := tM 0, fb := 9 }
theorem flM_zero {n : Nat} (h : 0 < n) : (getM (flM n) (tM 0)).isSome = true := by
  cases hc : getM (flM n) (tM 0)
  · rw [getM_none] at hc
    exact absurd rfl (hc (tM 0, flowR (rM 0)) (List.mem_map.2 ⟨0, List.mem_range.2 h, rfl⟩))
  · rfl
theorem drM_zero {n : Nat} (h : 0 < n) : (getM (drM n) (0 : Int)).isSome = true := by
  cases hc : getM (drM n) (0 : Int)
  · rw [getM_none] at hc
    exact absurd rfl (hc ((0 : Nat), 5) (List.mem_map.2 ⟨0, List.mem_range.2 h, rfl⟩))
  · rfl
theorem last_flow {n k : Nat} (hn : 0 < n) : errS (stM n k) rX = 0 ∧ (applyS (stM n k) rX).drains = drM (min k 16) ∧ (applyS (stM n k) rX).flows.length = min n 256 := by
  have hs : (getM (stM n k).flows rX.tup).isSome = true := flM_zero (by omega)
  have hf : fullS (stM n k) rX = false := by
    unfold fullS
    rw [if_pos (show rX.kind = 1 from rfl), hs]; rfl
  obtain ⟨h1, h2⟩ := apply_good (show badS rX = false from rfl) hf
  refine ⟨h1, by rw [h2]; rfl, ?_⟩
  rw [h2]
  show (putM (stM n k).flows rX.tup (flowR rX)).length = _
  rw [put_len, if_pos hs]
  exact flM_len _
theorem last_drain {S : StD} {k : Nat} (hk : 0 < k) (hd : S.drains = drM (min k 16)) : errS S (rD 0 6) = 0 ∧ (applyS S (rD 0 6)).drains.length = min k 16 ∧ (applyS S (rD 0 6)).flows = S.flows := by
  have hs : (getM S.drains (rD 0 6).back).isSome = true := by rw [hd]; exact drM_zero (by omega)
  have hf : fullS S (rD 0 6) = false := by
    unfold fullS
    rw [if_neg (by simp [rD]), if_pos (show (rD 0 6).kind = 4 from rfl), hs]; rfl
  obtain ⟨h1, h2⟩ := apply_good (rD_ok 0 6 (by omega) (by omega)) hf
  refine ⟨h1, ?_, by rw [h2]; rfl⟩
  rw [h2]
  show (putM S.drains (rD 0 6).back 6).length = _
  rw [put_len, if_pos hs, hd]
  exact drM_len _
theorem stM_ok : ∀ (n k : Nat), n ≤ 300 → k ≤ 99 → OkS (stM n k)
  | 0, 0, _, _ => OkS.new
  | n + 1, 0, hn, _ => by rw [← (put_step n (by omega)).2]; exact (stM_ok n 0 (by omega) (by omega)).apply _
  | n, k + 1, hn, hk => by rw [← (drain_step n k (by omega)).2]; exact (stM_ok n k hn (by omega)).apply _
termination_by n k => n + k
end Go.Proofs.Ytdabbkkjmmbigaa
