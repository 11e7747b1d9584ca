
/-
  States: plain laws. What a record makes of a state; its view.
-/
import Derived.Test.YtdabbkkjmmbigaaGreatGenN
import Derived.Test.YtdabbkkjmmbigaaGreatMap
namespace Go.Proofs.YtdabbkkjmmbigaaGreat
open Go.RowKit
set_option linter.unusedVariables false

instance instTupD : DecidableEq TupD := fun a b => decidable_of_iff (sameT a b = true) sameT_iff
structure FlD where
  tup : TupD
  back : Int
  gen : Int
  seen : Int
instance : Inhabited FlD := ⟨⟨default, 0, 0, 0⟩⟩
structure StD where
  gen : Int
  backs : List BackD
  drains : List (Int × Int)
  flows : List (TupD × FlD)
def newS : StD := ⟨0, [], [], []⟩
def flowR (r : RecD) : FlD := ⟨r.tup, r.fb, r.fg, r.fs⟩
/-- may it be applied at all? -/
def badS (r : RecD) : Bool := !mayR r || (decide (r.kind = 6) || (decide (r.kind = 3) && !mayBs r.backs))
/-- is there no room for it? -/
def fullS (s : StD) (r : RecD) : Bool :=
  if r.kind = 1 then !(getM s.flows r.tup).isSome && decide (256 ≤ s.flows.length)
  else if r.kind = 4 then !(getM s.drains r.back).isSome && decide (16 ≤ s.drains.length)
  else false
def doneS (s : StD) (r : RecD) : StD :=
  if r.kind = 1 then { s with flows := putM s.flows r.tup (flowR r) }
  else if r.kind = 2 then { s with flows := delM s.flows r.tup }
  else if r.kind = 3 then { s with gen := r.gen, backs := r.backs }
  else if r.kind = 4 then { s with drains := putM s.drains r.back r.until_ }
  else if r.kind = 5 then { s with drains := delM s.drains r.back }
  else s
def errS (s : StD) (r : RecD) : Int := if badS r then 1 else if fullS s r then 9 else 0
def applyS (s : StD) (r : RecD) : StD := if errS s r = 0 then doneS s r else s
/-- what holds of whatever state records make -/
structure OkS (s : StD) : Prop where
  nd : (s.drains.map (·.1)).Nodup
  nf : (s.flows.map (·.1)).Nodup
  ld : s.drains.length ≤ 16
  lf : s.flows.length ≤ 256
  own : ∀ p ∈ s.flows, p.2.tup = p.1
  rd : ∀ p ∈ s.drains, (0 ≤ p.1 ∧ p.1 ≤ 65535) ∧ timeB p.2 = true
  mb : mayBs s.backs = true
  rg : inB s.gen 1000000 = true
theorem OkS.new : OkS newS := ⟨by simp [newS], by simp [newS], by simp [newS], by simp [newS], by simp [newS], by simp [newS], rfl, rfl⟩
theorem put_mem {κ ν : Type} [DecidableEq κ] {m : List (κ × ν)} {x : κ} {v : ν} {p : κ × ν} (h : p ∈ putM m x v) : p ∈ m ∨ p = (x, v) := by
  unfold putM at h
  split at h
  · obtain ⟨q, hq, e⟩ := List.mem_map.1 h
    split at e
    · exact .inr e.symm
    · exact .inl (e ▸ hq)
  · rw [List.mem_append] at h
    rcases h with h | h
    · exact .inl h
    · exact .inr (by simpa using h)
theorem OkS.done {s : StD} (h : OkS s) {r : RecD} (hb : badS r = false) (hf : fullS s r = false) : OkS (doneS s r) := by
  have hmay : mayR r = true := by
    cases hc : mayR r
    · simp [badS, hc] at hb
    · rfl
  unfold doneS
  split
  · rename_i h1
    refine ⟨h.nd, put_nodup h.nf _ _, h.ld, ?_, ?_, h.rd, h.mb, h.rg⟩
    · show (putM s.flows r.tup (flowR r)).length ≤ 256
      rw [put_len]
      unfold fullS at hf
      rw [if_pos h1] at hf
      split
      · exact h.lf
      · rename_i h2
        simp [h2] at hf
        omega
    · intro p hp
      rcases put_mem hp with hp | rfl
      · exact h.own p hp
      · rfl
  · split
    · exact ⟨h.nd, del_nodup h.nf _, h.ld, Nat.le_trans (del_len_le _ _) h.lf, fun p hp => h.own p ((List.mem_filter.1 hp).1), h.rd, h.mb, h.rg⟩
    · split
      · rename_i h3
        have hmb : mayBs r.backs = true := by
          cases hc : mayBs r.backs
          · simp [badS, h3, hc] at hb
          · rfl
        have hrg : inB r.gen 1000000 = true := by
          have := hmay
          simp [mayR, h3] at this
          exact this.1
        exact ⟨h.nd, h.nf, h.ld, h.lf, h.own, h.rd, hmb, hrg⟩
      · split
        · rename_i h1 h2 h3 h4
          refine ⟨put_nodup h.nd _ _, h.nf, ?_, h.lf, h.own, ?_, h.mb, h.rg⟩
          · show (putM s.drains r.back r.until_).length ≤ 16
            rw [put_len]
            unfold fullS at hf
            rw [if_neg h1, if_pos h4] at hf
            split
            · exact h.ld
            · rename_i h5
              simp [h5] at hf
              omega
          · intro p hp
            rcases put_mem hp with hp | rfl
            · exact h.rd p hp
            · have := hmay
              simp [mayR, h4, inB] at this
              exact ⟨⟨by omega, by omega⟩, by simp [timeB, inB] at this ⊢; omega⟩
        · split
          · exact ⟨del_nodup h.nd _, h.nf, Nat.le_trans (del_len_le _ _) h.ld, h.lf, h.own, fun p hp => h.rd p ((List.mem_filter.1 hp).1), h.mb, h.rg⟩
          · exact h
theorem apply_bad {s : StD} {r : RecD} (h : badS r = true) : errS s r = 1 ∧ applyS s r = s := by
  have e : errS s r = 1 := by unfold errS; rw [if_pos h]
  exact ⟨e, by unfold applyS; rw [e, if_neg (by omega)]⟩
theorem apply_full {s : StD} {r : RecD} (h : badS r = false) (hf : fullS s r = true) : errS s r = 9 ∧ applyS s r = s := by
  have e : errS s r = 9 := by unfold errS; rw [if_neg (by simp [h]), if_pos hf]
  exact ⟨e, by unfold applyS; rw [e, if_neg (by omega)]⟩
theorem apply_good {s : StD} {r : RecD} (h : badS r = false) (hf : fullS s r = false) : errS s r = 0 ∧ applyS s r = doneS s r := by
  have e : errS s r = 0 := by unfold errS; rw [if_neg (by simp [h]), if_neg (by simp [hf])]
  exact ⟨e, by unfold applyS; rw [e, if_pos rfl]⟩
theorem OkS.apply {s : StD} (h : OkS s) (r : RecD) : OkS (applyS s r) := by
  cases hb : badS r
  · cases hf : fullS s r
    · rw [(apply_good hb hf).2]; exact h.done hb hf
    · rw [(apply_full hb hf).2]; exact h
  · rw [(apply_bad hb).2]; exact h
end Go.Proofs.YtdabbkkjmmbigaaGreat
