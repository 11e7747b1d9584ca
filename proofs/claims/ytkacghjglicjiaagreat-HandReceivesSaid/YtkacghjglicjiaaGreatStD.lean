/-
  States in memory: a record applied.
-/
import Derived.Test.YtkacghjglicjiaaGreatMap
import Derived.Laws.StructEq
import Derived.Test.YtkacghjglicjiaaGreatBlk
import Derived.WalkLawsBesides
import Derived.Deep.RegionHeld3
import Derived.Test.YtkacghjglicjiaaGreatRecA
import Derived.Deep.RegionLawGrows
import Derived.BigQuiet
import Derived.Test.YtkacghjglicjiaaGreatRecD
import Derived.Test.YtkacghjglicjiaaGreatRecP
namespace Go.Proofs.YtkacghjglicjiaaGreat
set_option linter.unusedVariables false
section
open Go.RowKit
instance instTupD : DecidableEq TupD := fun a b => decidable_of_iff (sameT a b = true) sameT_iff
structure FlD where
  tup : TupD
  back : Int
  gen : Int
  seen : Int
instance : Inhabited FlD := ⟨⟨default, 0, 0, 0⟩⟩
structure StD where
  gen : Int
  backs : List BackD
  drains : List (Int × Int)
  flows : List (TupD × FlD)
def newS : StD := ⟨0, [], [], []⟩
def flowR (r : RecD) : FlD := ⟨r.tup, r.fb, r.fg, r.fs⟩
def badS (r : RecD) : Bool := !mayR r || (decide (r.kind = 6) || (decide (r.kind = 3) && !mayBs r.backs))
def fullS (s : StD) (r : RecD) : Bool :=
  if r.kind = 1 then !(getM s.flows r.tup).isSome && decide (256 ≤ s.flows.length)
  else if r.kind = 4 then !(getM s.drains r.back).isSome && decide (16 ≤ s.drains.length)
  else false
def doneS (s : StD) (r : RecD) : StD :=
  if r.kind = 1 then { s with flows := putM s.flows r.tup (flowR r) }
  else if r.kind = 2 then { s with flows := delM s.flows r.tup }
  else if r.kind = 3 then { s with gen := r.gen, backs := r.backs }
  else if r.kind = 4 then { s with drains := putM s.drains r.back r.until_ }
  else if r.kind = 5 then { s with drains := delM s.drains r.back }
  else s
def errS (s : StD) (r : RecD) : Int := if badS r then 1 else if fullS s r then 9 else 0
def applyS (s : StD) (r : RecD) : StD := if errS s r = 0 then doneS s r else s
structure OkS (s : StD) : Prop where
  nd : (s.drains.map (·.1)).Nodup
  nf : (s.flows.map (·.1)).Nodup
  ld : s.drains.length ≤ 16
  lf : s.flows.length ≤ 256
  own : ∀ p ∈ s.flows, p.2.tup = p.1
  rd : ∀ p ∈ s.drains, (0 ≤ p.1 ∧ p.1 ≤ 65535) ∧ timeB p.2 = true
  mb : mayBs s.backs = true
  rg : inB s.gen 1000000 = true
theorem OkS.new : OkS newS := ⟨by simp [newS], by simp [newS], by simp [newS], by simp [newS], by simp [newS], by simp [newS], rfl, rfl⟩
theorem put_mem {κ ν : Type} [DecidableEq κ] {m : List (κ × ν)} {x : κ} {v : ν} {p : κ × ν} (h : p ∈ putM m x v) : p ∈ m ∨ p = (x, v) := by
  unfold putM at h
  split at h
  · obtain ⟨q, hq, e⟩ := List.mem_map.1 h
    split at e
    · exact .inr e.symm
    · exact .inl (e ▸ hq)
  · rw [List.mem_append] at h
    rcases h with h | h
    · exact .inl h
    · exact .inr (by simpa using h)
theorem OkS.done {s : StD} (h : OkS s) {r : RecD} (hb : badS r = false) (hf : fullS s r = false) : OkS (doneS s r) := by
  have hmay : mayR r = true := by
    cases hc : mayR r
    · simp [badS, hc] at hb
    · rfl
  unfold doneS
  split
  · rename_i h1
    refine ⟨h.nd, put_nodup h.nf _ _, h.ld, ?_, ?_, h.rd, h.mb, h.rg⟩
    · show (putM s.flows r.tup (flowR r)).length ≤ 256
      rw [put_len]
      unfold fullS at hf
      rw [if_pos h1] at hf
      split
      · exact h.lf
      · rename_i h2
        simp [h2] at hf
        omega
    · intro p hp
      rcases put_mem hp with hp | rfl
      · exact h.own p hp
      · rfl
  · split
    · exact ⟨h.nd, del_nodup h.nf _, h.ld, Nat.le_trans (del_len_le _ _) h.lf, fun p hp => h.own p ((List.mem_filter.1 hp).1), h.rd, h.mb, h.rg⟩
    · split
      · rename_i h3
        have hmb : mayBs r.backs = true := by
          cases hc : mayBs r.backs
          · simp [badS, h3, hc] at hb
          · rfl
        have hrg : inB r.gen 1000000 = true := by
          have := hmay
          simp [mayR, h3] at this
          exact this.1
        exact ⟨h.nd, h.nf, h.ld, h.lf, h.own, h.rd, hmb, hrg⟩
      · split
        · rename_i h1 h2 h3 h4
          refine ⟨put_nodup h.nd _ _, h.nf, ?_, h.lf, h.own, ?_, h.mb, h.rg⟩
          · show (putM s.drains r.back r.until_).length ≤ 16
            rw [put_len]
            unfold fullS at hf
            rw [if_neg h1, if_pos h4] at hf
            split
            · exact h.ld
            · rename_i h5
              simp [h5] at hf
              omega
          · intro p hp
            rcases put_mem hp with hp | rfl
            · exact h.rd p hp
            · have := hmay
              simp [mayR, h4, inB] at this
              exact ⟨⟨by omega, by omega⟩, by simp [timeB, inB] at this ⊢; omega⟩
        · split
          · exact ⟨del_nodup h.nd _, h.nf, Nat.le_trans (del_len_le _ _) h.ld, h.lf, h.own, fun p hp => h.rd p ((List.mem_filter.1 hp).1), h.mb, h.rg⟩
          · exact h
theorem apply_bad {s : StD} {r : RecD} (h : badS r = true) : errS s r = 1 ∧ applyS s r = s := by
  have e : errS s r = 1 := by unfold errS; rw [if_pos h]
  exact ⟨e, by unfold applyS; rw [e, if_neg (by omega)]⟩
theorem apply_full {s : StD} {r : RecD} (h : badS r = false) (hf : fullS s r = true) : errS s r = 9 ∧ applyS s r = s := by
  have e : errS s r = 9 := by unfold errS; rw [if_neg (by simp [h]), if_pos hf]
  exact ⟨e, by unfold applyS; rw [e, if_neg (by omega)]⟩
theorem apply_good {s : StD} {r : RecD} (h : badS r = false) (hf : fullS s r = false) : errS s r = 0 ∧ applyS s r = doneS s r := by
  have e : errS s r = 0 := by unfold errS; rw [if_neg (by simp [h]), if_neg (by simp [hf])]
  exact ⟨e, by unfold applyS; rw [e, if_pos rfl]⟩
theorem OkS.apply {s : StD} (h : OkS s) (r : RecD) : OkS (applyS s r) := by
  cases hb : badS r
  · cases hf : fullS s r
    · rw [(apply_good hb hf).2]; exact h.done hb hf
    · rw [(apply_full hb hf).2]; exact h
  · rw [(apply_bad hb).2]; exact h
end
section
open Go.RowKit Go.ChangeShapes Go.WideShapes Go.ChangeAt Go.Deep Go.MapKept
def ekT (t : TupD) : Value := .agg #[.int .u32 (t.src.toNat : Nat), .int .u32 (t.dst.toNat : Nat), .int .i64 t.proto, .int .i64 t.sport, .int .i64 t.dport]
def ekI (n : Int) : Value := .int .i64 n
def evI (n : Int) : Value := .int .i64 n
def flC (f : FlD) : List Value := [.int .u32 (f.tup.src.toNat : Nat), .int .u32 (f.tup.dst.toNat : Nat), .int .i64 f.tup.proto, .int .i64 f.tup.sport, .int .i64 f.tup.dport, .int .i64 f.back, .int .i64 f.gen, .int .i64 f.seen]
def evF (f : FlD) : Value := .agg #[.int .u32 (f.tup.src.toNat : Nat), .int .u32 (f.tup.dst.toNat : Nat), .int .i64 f.tup.proto, .int .i64 f.tup.sport, .int .i64 f.tup.dport, .int .i64 f.back, .int .i64 f.gen, .int .i64 f.seen]
theorem ekI_fam : KeyFam Tryz.prog 3 ekI := KeyFam.plain (d := .int .i64) Tryz.underlying3 (fun x => rfl) (fun {a b} h => by injection h)
theorem ekT_inj {a b : TupD} (h : ekT a = ekT b) : a = b := by
  cases a; cases b
  simp only [ekT, Value.agg.injEq, Array.mk.injEq, List.cons.injEq, Value.int.injEq, true_and, and_true] at h
  obtain ⟨h1, h2, h3, h4, h5⟩ := h
  rw [TupD.mk.injEq]
  exact ⟨UInt32.toNat_inj.1 (by omega), UInt32.toNat_inj.1 (by omega), h3, h4, h5⟩
theorem ekT_check (w : World) (em : Bool) (t : TupD) : (Instr.checkKey em 10000 39 (ekT t)).run Tryz.prog w = .ok () w := by
  have h1 := Tryz.underlying39
  have h2 := Tryz.underlying37
  have h3 := Tryz.underlying3
  have a3 := Tryz.isAgg3
  have z3 := Tryz.sizeOf3
  have a22 := Tryz.isAgg37
  have z22 := Tryz.sizeOf37
  have k3 : ∀ (n : Int) (w : World), (Instr.checkKey em 9999 3 (.int .i64 n)).run Tryz.prog w = .ok () w := fun n w => run_checkKey h3 (show IsKey (.int .i64) (.int .i64 n) from rfl) em 9998
  have k2 : ∀ (n : Int) (w : World), (Instr.checkKey em 9999 37 (.int .u32 n)).run Tryz.prog w = .ok () w := fun n w => run_checkKey h2 (show IsKey (.int .u32) (.int .u32 n) from rfl) em 9998
  show (Instr.checkKey em (9999 + 1) 39 (ekT t)).run Tryz.prog w = .ok () w
  unfold Instr.checkKey
  simp [run_underlying h1, ekT]
  clear h1
  go_simp
theorem eqT_run (f g : TupD) (w : World) : (Op.equalIn 10000 39 (.agg #[.int .u32 (f.src.toNat : Nat), .int .u32 (f.dst.toNat : Nat), .int .i64 f.proto, .int .i64 f.sport, .int .i64 f.dport]) (.agg #[.int .u32 (g.src.toNat : Nat), .int .u32 (g.dst.toNat : Nat), .int .i64 g.proto, .int .i64 g.sport, .int .i64 g.dport])).run Tryz.prog w = .ok (sameT f g) w := by
  have u3 := Tryz.underlying3
  have u22 := Tryz.underlying37
  have a3 := Tryz.isAgg3
  have z3 := Tryz.sizeOf3
  have a22 := Tryz.isAgg37
  have z22 := Tryz.sizeOf37
  have hS' : Tryz.prog.underlying 39 = some (.struct (Tryz.prog.fieldsOf 39)) := by kernel_rfl
  have hp' : Tryz.prog.stoodInHeld 39 = false := by kernel_rfl
  rw [show (10000 : Nat) = 9999 + 1 from rfl, run_equalIn_agg w 9999 39 _ _ hS' hp']
  simp only [Program.fieldsOf, Tryz.underlying39]
  clear hS' hp'
  go_simp
  have e1 := u32_cast f.src g.src
  have e2 := u32_cast f.dst g.dst
  unfold sameT
  cases h1 : f.src == g.src <;> cases h2 : f.dst == g.dst <;> cases h3 : f.proto == g.proto <;> cases h4 : f.sport == g.sport <;> cases h5 : f.dport == g.dport <;> rw [h1] at e1 <;> rw [h2] at e2 <;> simp_all
theorem findT (w : World) (t : TupD) : ∀ (es : List MapEntry) (i : Nat), (∀ e ∈ es, ∃ y, e.key = ekT y) →
    ((Instr.findAsking 39 (ekT t) es i).run Tryz.prog w = .ok none w ∧ ∀ e ∈ es, e.key ≠ ekT t) ∨ ∃ j e, (Instr.findAsking 39 (ekT t) es i).run Tryz.prog w = .ok (some (i + j, e.val)) w ∧ es[j]? = some e ∧ e.key = ekT t
  | [], i, _ => .inl ⟨by simp [Instr.findAsking], by simp⟩
  | e :: es, i, h => by
    obtain ⟨y, hy⟩ := h e (by simp)
    have heq : (Op.equal 39 (ekT t) (ekT y)).run Tryz.prog w = .ok (sameT t y) w := eqT_run t y w
    cases hs : sameT t y
    · have hne : e.key ≠ ekT t := fun q => by
        have : y = t := ekT_inj (hy.symm.trans q)
        rw [this, sameT_iff.2 rfl] at hs
        cases hs
      rcases findT w t es (i + 1) (fun x hx => h x (by simp [hx])) with ⟨h1, h2⟩ | ⟨j, x, h1, h2, h3⟩
      · refine .inl ⟨?_, fun x hx => ?_⟩
        · unfold Instr.findAsking
          simp [hy, heq, hs, h1, Result.andThen]
        · rcases List.mem_cons.1 hx with rfl | hx
          · exact hne
          · exact h2 x hx
      · refine .inr ⟨j + 1, x, ?_, by simpa using h2, h3⟩
        unfold Instr.findAsking
        simp [hy, heq, hs, h1, Result.andThen]
        omega
    · obtain rfl : t = y := sameT_iff.1 hs
      refine .inr ⟨0, e, ?_, rfl, hy⟩
      unfold Instr.findAsking
      simp [hy, heq, hs, Result.andThen]
theorem ekT_fam : KeyFam Tryz.prog 39 ekT where
  inj := ekT_inj
  check := ekT_check
  find w x es hes := by
    have e : (Instr.findKey 39 (ekT x) es).run Tryz.prog w = (Instr.findAsking 39 (ekT x) es 0).run Tryz.prog w := by
      unfold Instr.findKey
      have h1 := Tryz.underlying39
      cases es with
      | nil => simp [run_underlying h1, Instr.findNow, Instr.findAsking]
      | cons y es => simp [run_underlying h1, Instr.findNow, Instr.sameNow]
    rw [e]
    have := findT w x es 0 hes
    simpa using this
  stays w x := by
    have hb : Instr.sameBits 10000 (ekT x) (ekT x) = true := by
      show Instr.sameBits (9999 + 1) (ekT x) (ekT x) = true
      unfold Instr.sameBits
      simp [ekT, Instr.sameBits]
    unfold Instr.keyThatStays
    rw [hb]
    rfl
end
section
open Go.RowKit Go.ChangeShapes Go.WideShapes Go.ChangeAt Go.Deep
def cmpI (a b : Int) : Int := if a < b then -1 else if b < a then 1 else 0
theorem isNaN32 (w : World) (n : Int) : Calls Tryz.prog 145 #[.int .u32 n] w fun e w' => e = .returned (.bool false) ∧ w = w' := by
  go_enter Tryz.func145, Tryz.ntmps145
  go_wp2
  go_ret
  exact ⟨rfl, rfl⟩
theorem isNaN64 (w : World) (n : Int) : Calls Tryz.prog 146 #[.int .i64 n] w fun e w' => e = .returned (.bool false) ∧ w = w' := by
  go_enter Tryz.func146, Tryz.ntmps146
  go_wp2
  go_ret
  exact ⟨rfl, rfl⟩
theorem cmp32 (w : World) (a b : Int) : Calls Tryz.prog 133 #[.int .u32 a, .int .u32 b] w fun e w' => e = .returned (.int .i64 (cmpI a b)) ∧ w = w' := by
  have hw : a < b ∨ (¬ a < b ∧ b < a) ∨ (¬ a < b ∧ ¬ b < a) := by omega
  rcases hw with h | ⟨h, h'⟩ | ⟨h, h'⟩
  · have e := Lib.hid (show cmpI a b = -1 by unfold cmpI; rw [if_pos h])
    go_enter Tryz.func133, Tryz.ntmps133
    go_wp2_with (go_at_call 145; refine (isNaN32 _ _).mono ?_; rintro e w' ⟨rfl, rfl⟩)
    go_ret
    exact ⟨by rw [e.out]; rfl, rfl⟩
  · have e := Lib.hid (show cmpI a b = 1 by unfold cmpI; rw [if_neg h, if_pos h'])
    go_enter Tryz.func133, Tryz.ntmps133
    go_wp2_with (go_at_call 145; refine (isNaN32 _ _).mono ?_; rintro e w' ⟨rfl, rfl⟩)
    go_ret
    exact ⟨by rw [e.out]; rfl, rfl⟩
  · have e := Lib.hid (show cmpI a b = 0 by unfold cmpI; rw [if_neg h, if_neg h'])
    go_enter Tryz.func133, Tryz.ntmps133
    go_wp2_with (go_at_call 145; refine (isNaN32 _ _).mono ?_; rintro e w' ⟨rfl, rfl⟩)
    go_ret
    exact ⟨by rw [e.out]; rfl, rfl⟩
theorem cmp64 (w : World) (a b : Int) : Calls Tryz.prog 134 #[.int .i64 a, .int .i64 b] w fun e w' => e = .returned (.int .i64 (cmpI a b)) ∧ w = w' := by
  have hw : a < b ∨ (¬ a < b ∧ b < a) ∨ (¬ a < b ∧ ¬ b < a) := by omega
  rcases hw with h | ⟨h, h'⟩ | ⟨h, h'⟩
  · have e := Lib.hid (show cmpI a b = -1 by unfold cmpI; rw [if_pos h])
    go_enter Tryz.func134, Tryz.ntmps134
    go_wp2_with (go_at_call 146; refine (isNaN64 _ _).mono ?_; rintro e w' ⟨rfl, rfl⟩)
    go_ret
    exact ⟨by rw [e.out]; rfl, rfl⟩
  · have e := Lib.hid (show cmpI a b = 1 by unfold cmpI; rw [if_neg h, if_pos h'])
    go_enter Tryz.func134, Tryz.ntmps134
    go_wp2_with (go_at_call 146; refine (isNaN64 _ _).mono ?_; rintro e w' ⟨rfl, rfl⟩)
    go_ret
    exact ⟨by rw [e.out]; rfl, rfl⟩
  · have e := Lib.hid (show cmpI a b = 0 by unfold cmpI; rw [if_neg h, if_neg h'])
    go_enter Tryz.func134, Tryz.ntmps134
    go_wp2_with (go_at_call 146; refine (isNaN64 _ _).mono ?_; rintro e w' ⟨rfl, rfl⟩)
    go_ret
    exact ⟨by rw [e.out]; rfl, rfl⟩
def orI : List Int → Int
  | [] => 0
  | a :: l => if a ≠ 0 then a else orI l
theorem orI_drop {l : List Int} {k : Nat} (h : k < l.length) : orI (l.drop k) = if l[k] ≠ 0 then l[k] else orI (l.drop (k + 1)) := by
  rw [← List.getElem_cons_drop (h := h)]; rfl
set_option maxHeartbeats 1600000 in
theorem Or_any (w : World) (g : Nat) (l : List Int) (n : Nat) (hl : l.length = n) (hn : n ≤ 100) (hc : ∀ (j : Nat) (h : j < l.length), w.cell? ⟨g, j, none⟩ = some (.int .i64 l[j])) :
    Calls Tryz.prog 132 #[.slice (some ⟨g, 0, none⟩) n n] w fun e w' => e = .returned (.int .i64 (orI l)) ∧ w = w' := by
  have HC := Lib.hid hc
  have HL := Lib.hid hl
  clear hc hl
  go_enter Tryz.func132, Tryz.ntmps132
  go_wp2
  go_loopg [8] n (fun gg i wr => ∃ k : Nat, k ≤ n ∧ gg = n - k ∧ i = .int .i64 k ∧ orI (l.drop k) = orI l ∧ wr = w)
  case atStart => exact ⟨0, by omega, by omega, rfl, by simp, rfl⟩
  case round =>
    obtain ⟨k, hk, rfl, rfl, ho, rfl⟩ := hrel
    have HO := Lib.hid ho
    clear ho
    by_cases hlt : k < n
    · have hkl : k < l.length := by have := HL.out; omega
      have hck := HC.out k hkl
      have hd := orI_drop hkl
      obtain ⟨x, hx⟩ : ∃ x, l[k] = x := ⟨_, rfl⟩
      rw [hx] at hck hd
      have i1 : (k : Int) < (n : Int) := by omega
      by_cases hx0 : x = 0
      · subst hx0
        have HD := Lib.hid (show orI (l.drop (k + 1)) = orI l by rw [← HO.out, hd]; simp)
        clear hd hx
        go_wp2
        go_roundg (n - (k + 1))
        case measure => omega
        case rel => exact ⟨k + 1, by omega, rfl, by go_num, HD.out, rfl⟩
      · have HD := Lib.hid (show orI l = x by rw [← HO.out, hd, if_pos hx0])
        have b1 : (x == 0) = false := by simpa using hx0
        have b2 : (x != 0) = true := by simpa using hx0
        clear hd hx hx0
        go_wp2
        go_ret
        exact ⟨by rw [HD.out]; rfl, rfl⟩
    · obtain rfl : k = n := by omega
      have HD := Lib.hid (show orI l = 0 by rw [← HO.out, List.drop_of_length_le (by rw [HL.out]; omega)]; rfl)
      have i1 : ¬ (k : Int) < (k : Int) := by omega
      go_wp2
      go_ret
      exact ⟨by rw [HD.out]; rfl, rfl⟩
theorem cells5 (w : World) (c1 c2 c3 c4 c5 : Int) : ∀ (j : Nat) (h : j < [c1, c2, c3, c4, c5].length), (w.alloc (.cells #[.int .i64 c1, .int .i64 c2, .int .i64 c3, .int .i64 c4, .int .i64 c5] 3)).cell? ⟨w.heap.size, j, none⟩ = some (.int .i64 [c1, c2, c3, c4, c5][j]) := by
  intro j hj
  rw [(Blk.new w 3 #[.int .i64 c1, .int .i64 c2, .int .i64 c3, .int .i64 c4, .int .i64 c5]).cell j]
  match j, hj with
  | 0, _ => rfl
  | 1, _ => rfl
  | 2, _ => rfl
  | 3, _ => rfl
  | 4, _ => rfl
  | j + 5, h => exact absurd h (by simp only [List.length_cons, List.length_nil]; omega)
def cmpsT (a b : TupD) : List Int := [cmpI (a.src.toNat : Nat) (b.src.toNat : Nat), cmpI (a.dst.toNat : Nat) (b.dst.toNat : Nat), cmpI a.proto b.proto, cmpI a.sport b.sport, cmpI a.dport b.dport]
def lessT (a b : TupD) : Bool := decide (orI (cmpsT a b) < 0)
def keyT (t : TupD) : List Int := [(t.src.toNat : Nat), (t.dst.toNat : Nat), t.proto, t.sport, t.dport]
def cmpL (x y : List Int) : Int := orI (List.zipWith cmpI x y)
theorem less_key (a b : TupD) : lessT a b = decide (cmpL (keyT a) (keyT b) < 0) := rfl
theorem keyT_inj {a b : TupD} (h : keyT a = keyT b) : a = b := by
  simp only [keyT, List.cons.injEq, and_true] at h
  obtain ⟨h1, h2, h3, h4, h5⟩ := h
  have e1 := UInt32.toNat_inj.1 (Int.ofNat_inj.1 h1)
  have e2 := UInt32.toNat_inj.1 (Int.ofNat_inj.1 h2)
  cases a; cases b
  simp only [TupD.mk.injEq]
  exact ⟨e1, e2, h3, h4, h5⟩
theorem cmpI_neg (a b : Int) : cmpI b a = -cmpI a b := by unfold cmpI; split <;> split <;> omega
theorem cmpI_zero {a b : Int} : cmpI a b = 0 ↔ a = b := by unfold cmpI; split <;> (try split) <;> omega
theorem cmpI_lt {a b : Int} : cmpI a b < 0 ↔ a < b := by unfold cmpI; split <;> (try split) <;> omega
theorem cmpL_cons (a b : Int) (x y : List Int) : cmpL (a :: x) (b :: y) = if cmpI a b ≠ 0 then cmpI a b else cmpL x y := rfl
theorem cmpL_refl : ∀ x : List Int, cmpL x x = 0
  | [] => rfl
  | a :: x => by rw [cmpL_cons, if_neg (by simp [cmpI_zero]), cmpL_refl x]
theorem cmpL_neg : ∀ x y : List Int, cmpL y x = -cmpL x y
  | [], [] => rfl
  | [], _ :: _ => rfl
  | _ :: _, [] => rfl
  | a :: x, b :: y => by
    rw [cmpL_cons, cmpL_cons, cmpI_neg a b]
    by_cases h : cmpI a b = 0
    · rw [if_neg (by omega), if_neg (by omega), cmpL_neg x y]
    · rw [if_pos (by omega), if_pos h]
theorem cmpL_zero : ∀ {x y : List Int}, x.length = y.length → cmpL x y = 0 → x = y
  | [], [], _, _ => rfl
  | a :: x, b :: y, hl, h => by
    rw [cmpL_cons] at h
    by_cases h0 : cmpI a b = 0
    · rw [if_neg (by omega)] at h
      rw [cmpI_zero.1 h0, cmpL_zero (by simpa using hl) h]
    · rw [if_pos h0] at h; exact absurd h h0
theorem cmpL_trans : ∀ {x y z : List Int}, x.length = y.length → y.length = z.length → cmpL x y < 0 → cmpL y z < 0 → cmpL x z < 0
  | [], [], [], _, _, h, _ => h
  | a :: x, b :: y, c :: z, h1, h2, h3, h4 => by
    rw [cmpL_cons] at h3 h4 ⊢
    by_cases e1 : cmpI a b = 0
    · have := cmpI_zero.1 e1
      subst this
      rw [if_neg (by omega)] at h3
      by_cases e2 : cmpI a c = 0
      · rw [if_neg (by omega)] at h4 ⊢
        exact cmpL_trans (by simpa using h1) (by simpa using h2) h3 h4
      · rw [if_pos e2] at h4 ⊢; exact h4
    · rw [if_pos e1] at h3
      by_cases e2 : cmpI b c = 0
      · have := cmpI_zero.1 e2
        subst this
        rw [if_pos e1]; exact h3
      · rw [if_pos e2] at h4
        have : cmpI a c < 0 := cmpI_lt.2 (by have := cmpI_lt.1 h3; have := cmpI_lt.1 h4; omega)
        rw [if_pos (by omega)]; exact this
theorem less_irr (a : TupD) : lessT a a = false := by rw [less_key, cmpL_refl]; rfl
theorem less_one {a b : TupD} (h : a ≠ b) : (lessT a b == lessT b a) = false := by
  rw [less_key, less_key, cmpL_neg (keyT a) (keyT b)]
  have h0 : cmpL (keyT a) (keyT b) ≠ 0 := fun e => h (keyT_inj (cmpL_zero rfl e))
  rw [beq_eq_false_iff_ne]
  intro e
  rw [decide_eq_decide] at e
  omega
theorem less_trans {a b c : TupD} (h1 : lessT a b = true) (h2 : lessT b c = true) : lessT a c = true := by
  rw [less_key, decide_eq_true_eq] at h1 h2 ⊢
  exact cmpL_trans (x := keyT a) (y := keyT b) (z := keyT c) rfl rfl h1 h2
end
section
open Go.RowKit Go.ChangeShapes Go.WideShapes Go.ChangeAt Go.Deep Go.MapKept
structure StAt (W w : World) (p bd bf : Nat) (A : Option Addr) (m c : Nat) (S : StD) : Prop where
  blk : Blk w p 144 #[.int .i64 S.gen, .slice A m c, .map (some bd), .map (some bf)]
  md : MapB ekI evI w bd S.drains
  mf : MapB ekT evF w bf S.flows
  bk : BkV W w (.slice A m c) S.backs
  hp : W.heap.size ≤ p
  hd : W.heap.size ≤ bd
  hf : W.heap.size ≤ bf
  ne : bd ≠ bf
def StB (W w : World) (p : Nat) (S : StD) : Prop := ∃ bd bf A m c, StAt W w p bd bf A m c S
theorem StAt.go {W w w' : World} {p bd bf : Nat} {A : Option Addr} {m c : Nat} {S : StD} (h : StAt W w p bd bf A m c S) (hk : Kept [] w w') : StAt W w' p bd bf A m c S :=
  ⟨h.blk.kept hk (by simp), h.md.kept hk (by simp), h.mf.kept hk (by simp), LV.go BkOk h.bk hk, h.hp, h.hd, h.hf, h.ne⟩
theorem StAt.kept {W w : World} {p bd bf : Nat} {A : Option Addr} {m c : Nat} {S : StD} (h : StAt W w p bd bf A m c S) : Kept [] W w := LV.kept h.bk
theorem StB.go {W w w' : World} {p : Nat} {S : StD} (h : StB W w p S) (hk : Kept [] w w') : StB W w' p S := by
  obtain ⟨bd, bf, A, m, c, h⟩ := h
  exact ⟨bd, bf, A, m, c, h.go hk⟩
theorem StB.kept {W w : World} {p : Nat} {S : StD} (h : StB W w p S) : Kept [] W w := by
  obtain ⟨bd, bf, A, m, c, h⟩ := h
  exact h.kept
theorem StB.wide {W0 W w : World} {p : Nat} {S : StD} (h : StB W w p S) (hk : Kept [] W0 W) : StB W0 w p S := by
  obtain ⟨bd, bf, A, m, c, h⟩ := h
  have := hk.size
  exact ⟨bd, bf, A, m, c, h.blk, h.md, h.mf, LV.wide h.bk hk, by have := h.hp; omega, by have := h.hd; omega, by have := h.hf; omega, h.ne⟩
set_option maxHeartbeats 1600000 in
theorem New_any (w : World) : Calls Tryz.prog 51 #[] w fun e w' => ∃ p, e = .returned (.pointer (some ⟨p, 0, none⟩)) ∧ StB w w' p newS := by
  have hmm := @run_makeMap Tryz.prog
  have M1 := Lib.hid (MapB.new (ek := ekI) (ev := evI) w)
  have M2 := Lib.hid (MapB.new (ek := ekT) (ev := evF) (w.alloc (.map #[] 0)))
  have K := Lib.hid (((Kept.refl [] w).alloc (.map #[] 0)).alloc (.map #[] 0))
  go_enter Tryz.func51, Tryz.ntmps51
  go_wp2
  go_ret
  refine ⟨_, rfl, w.heap.size, (w.alloc (.map #[] 0)).heap.size, none, 0, 0, ?_⟩
  have L0 := M1.out.lt
  have M1' := (M1.out.alloc (.map #[] 0)).alloc (.cells #[.int .i64 0, .slice none 0 0, .map (some w.heap.size), .map (some (w.heap.size + 1))] 144 (0, 0))
  have M2' := M2.out.alloc (.cells #[.int .i64 0, .slice none 0 0, .map (some w.heap.size), .map (some (w.heap.size + 1))] 144 (0, 0))
  refine ⟨?_, M1', M2', ?_, ?_, ?_, ?_, ?_⟩
  · simp only [World.size_alloc]
    refine Blk.new' _ ?_ _ _
    simp only [World.size_alloc]
  · exact LV.nil (K.out.alloc _)
  all_goals (first | omega | (simp only [World.size_alloc]; omega))
theorem StAt.drewN {W w : World} {p bd bf : Nat} {A : Option Addr} {m c : Nat} {S : StD} (h : StAt W w p bd bf A m c S) (n : Nat) : StAt W (w.drewN n) p bd bf A m c S := h.go ((Kept.refl [] w).drewN n)
theorem StAt.lens {W w : World} {p bd bf : Nat} {A : Option Addr} {m c : Nat} {S : StD} (h : StAt W w p bd bf A m c S) :
    (∀ n ty, (Builtin.len_ #[141] ty #[.map (some bd)]).run Tryz.prog (w.drewN n) = .ok (.int .i64 (S.drains.length : Nat)) (w.drewN n)) ∧ (∀ n ty, (Builtin.len_ #[142] ty #[.map (some bf)]).run Tryz.prog (w.drewN n) = .ok (.int .i64 (S.flows.length : Nat)) (w.drewN n)) :=
  ⟨fun n ty => (h.drewN n).md.len Tryz.underlying141 ty, fun n ty => (h.drewN n).mf.len Tryz.underlying142 ty⟩
theorem StAt.cells {W w : World} {p bd bf : Nat} {A : Option Addr} {m c : Nat} {S : StD} (h : StAt W w p bd bf A m c S) :
    w.cell? ⟨p, 0, none⟩ = some (.int .i64 S.gen) ∧ w.cell? ⟨p, 1, none⟩ = some (.slice A m c) ∧ w.cell? ⟨p, 2, none⟩ = some (.map (some bd)) ∧ w.cell? ⟨p, 3, none⟩ = some (.map (some bf)) :=
  ⟨h.blk.cell 0, h.blk.cell 1, h.blk.cell 2, h.blk.cell 3⟩
def lenS (S : StD) : Int := 1 + S.drains.length + S.flows.length
def zFl : FlD := ⟨⟨0, 0, 0, 0, 0⟩, 0, 0, 0⟩
theorem zFl_run (w : World) : (zeroValue 41).run Tryz.prog w = .ok (evF zFl) w := by
  have h1 := Tryz.underlying41
  go_simp
  rfl
theorem StAt.looks {W w : World} {p bd bf : Nat} {A : Option Addr} {m c : Nat} {S : StD} (h : StAt W w p bd bf A m c S) :
    (∀ k, (Instr.lookup 141 (.map (some bd)) (ekI k) true).run Tryz.prog w = .ok (.tuple #[((getM S.drains k).map evI).getD (.int .i64 0), .bool (getM S.drains k).isSome]) w) ∧
    (∀ k, (Instr.lookup 142 (.map (some bf)) (ekT k) true).run Tryz.prog w = .ok (.tuple #[((getM S.flows k).map evF).getD (evF zFl), .bool (getM S.flows k).isSome]) w) :=
  ⟨fun k => h.md.look ekI_fam Tryz.underlying141 (by go_simp) true k, fun k => h.mf.look ekT_fam Tryz.underlying142 (zFl_run w) true k⟩
end
section
open Go.RowKit Go.ChangeShapes Go.WideShapes Go.ChangeAt Go.Deep Go.MapKept
set_option maxRecDepth 100000 in
theorem full_any {W w : World} {p : Nat} {S : StD} (h : StB W w p S) (ok : OkS S) (r : RecD) (A' : Option Addr) (m' c' : Nat) : Calls Tryz.prog 90 #[.pointer (some ⟨p, 0, none⟩), .agg #[.int .i64 r.kind, .int .u32 (r.tup.src.toNat : Nat), .int .u32 (r.tup.dst.toNat : Nat), .int .i64 r.tup.proto, .int .i64 r.tup.sport, .int .i64 r.tup.dport, .int .i64 r.fb, .int .i64 r.fg, .int .i64 r.fs, .int .i64 r.gen, .slice A' m' c', .int .i64 r.back, .int .i64 r.until_, .int .i64 r.count]] w fun e w' => e = .returned (.bool (fullS S r)) ∧ Kept [] w w' := by
  obtain ⟨bd, bf, A, m, c, h⟩ := h
  have H := Lib.hid h
  have Ok := Lib.hid ok
  clear ok
  have hp := H.out.blk.lt
  have hk5 : Kept [] w (w.alloc (.cells #[.int .i64 r.kind, .int .u32 (r.tup.src.toNat : Nat), .int .u32 (r.tup.dst.toNat : Nat), .int .i64 r.tup.proto, .int .i64 r.tup.sport, .int .i64 r.tup.dport, .int .i64 r.fb, .int .i64 r.fg, .int .i64 r.fs, .int .i64 r.gen, .slice A' m' c', .int .i64 r.back, .int .i64 r.until_, .int .i64 r.count] 43)) := by (repeat (first | exact Kept.refl _ _ | apply Kept.alloc | apply Kept.drew))
  have X5 := Lib.hid (show Blk (w.alloc (.cells #[.int .i64 r.kind, .int .u32 (r.tup.src.toNat : Nat), .int .u32 (r.tup.dst.toNat : Nat), .int .i64 r.tup.proto, .int .i64 r.tup.sport, .int .i64 r.tup.dport, .int .i64 r.fb, .int .i64 r.fg, .int .i64 r.fs, .int .i64 r.gen, .slice A' m' c', .int .i64 r.back, .int .i64 r.until_, .int .i64 r.count] 43)) w.heap.size 43 #[.int .i64 r.kind, .int .u32 (r.tup.src.toNat : Nat), .int .u32 (r.tup.dst.toNat : Nat), .int .i64 r.tup.proto, .int .i64 r.tup.sport, .int .i64 r.tup.dport, .int .i64 r.fb, .int .i64 r.fg, .int .i64 r.fs, .int .i64 r.gen, .slice A' m' c', .int .i64 r.back, .int .i64 r.until_, .int .i64 r.count] from by (repeat (first | (apply Blk.new'; simp; done) | apply Blk.alloc | apply Blk.drew)))
  have hs5 : w.heap.size < (w.alloc (.cells #[.int .i64 r.kind, .int .u32 (r.tup.src.toNat : Nat), .int .u32 (r.tup.dst.toNat : Nat), .int .i64 r.tup.proto, .int .i64 r.tup.sport, .int .i64 r.tup.dport, .int .i64 r.fb, .int .i64 r.fg, .int .i64 r.fs, .int .i64 r.gen, .slice A' m' c', .int .i64 r.back, .int .i64 r.until_, .int .i64 r.count] 43)).heap.size := by simp
  have H5 := Lib.hid (H.out.go hk5)
  have HK5 := Lib.hid hk5
  clear h hk5
  by_cases k1 : r.kind = 1
  · obtain ⟨f, hf⟩ : ∃ f, (getM S.flows r.tup).getD zFl = f := ⟨_, rfl⟩
    have ef : ((getM S.flows r.tup).map evF).getD (evF zFl) = evF f := by rw [← hf]; cases getM S.flows r.tup <;> rfl
    have hl := Ok.out.lf
    have hfull := Lib.hid (show fullS S r = (!(getM S.flows r.tup).isSome && decide (256 ≤ S.flows.length)) by unfold fullS; rw [if_pos k1])
    have b1 : (r.kind == 1) = true := by simp [k1]
    clear k1
    have HL := Lib.hid (show ∀ w', Kept [] (w.alloc (.cells #[.int .i64 r.kind, .int .u32 (r.tup.src.toNat : Nat), .int .u32 (r.tup.dst.toNat : Nat), .int .i64 r.tup.proto, .int .i64 r.tup.sport, .int .i64 r.tup.dport, .int .i64 r.fb, .int .i64 r.fg, .int .i64 r.fs, .int .i64 r.gen, .slice A' m' c', .int .i64 r.back, .int .i64 r.until_, .int .i64 r.count] 43)) w' → (Instr.lookup 142 (.map (some bf)) (.agg #[.int .u32 (r.tup.src.toNat : Nat), .int .u32 (r.tup.dst.toNat : Nat), .int .i64 r.tup.proto, .int .i64 r.tup.sport, .int .i64 r.tup.dport]) true).run Tryz.prog w' = .ok (.tuple #[.agg #[.int .u32 (f.tup.src.toNat : Nat), .int .u32 (f.tup.dst.toNat : Nat), .int .i64 f.tup.proto, .int .i64 f.tup.sport, .int .i64 f.tup.dport, .int .i64 f.back, .int .i64 f.gen, .int .i64 f.seen], .bool (getM S.flows r.tup).isSome]) w' from fun w' hk => by
      have := (H5.out.go hk).looks.2 r.tup
      rw [ef] at this
      exact this)
    clear ef hf
    have HN := Lib.hid (fun (w' : World) (hk : Kept [] (w.alloc (.cells #[.int .i64 r.kind, .int .u32 (r.tup.src.toNat : Nat), .int .u32 (r.tup.dst.toNat : Nat), .int .i64 r.tup.proto, .int .i64 r.tup.sport, .int .i64 r.tup.dport, .int .i64 r.fb, .int .i64 r.fg, .int .i64 r.fs, .int .i64 r.gen, .slice A' m' c', .int .i64 r.back, .int .i64 r.until_, .int .i64 r.count] 43)) w') => show ∀ ty, (Builtin.len_ #[142] ty #[.map (some bf)]).run Tryz.prog w' = .ok (.int .i64 (S.flows.length : Nat)) w' from fun ty => (H5.out.go hk).mf.len Tryz.underlying142 ty)
    generalize S.flows.length = n at *
    generalize (getM S.flows r.tup).isSome = b at *
    go_enter Tryz.func90, Tryz.ntmps90
    go_wp2
    generalize w.alloc (.cells #[.int .i64 r.kind, .int .u32 (r.tup.src.toNat : Nat), .int .u32 (r.tup.dst.toNat : Nat), .int .i64 r.tup.proto, .int .i64 r.tup.sport, .int .i64 r.tup.dport, .int .i64 r.fb, .int .i64 r.fg, .int .i64 r.fs, .int .i64 r.gen, .slice A' m' c', .int .i64 r.back, .int .i64 r.until_, .int .i64 r.count] 43) = w5 at *
    go_region_held3 (fun w' => (∀ o, w'.cell? ⟨p, o, none⟩ = (#[.int .i64 S.gen, .slice A m c, .map (some bd), .map (some bf)] : Array Value)[o]?) ∧ (∀ o, w'.cell? ⟨w.heap.size, o, none⟩ = (#[.int .i64 r.kind, .int .u32 (r.tup.src.toNat : Nat), .int .u32 (r.tup.dst.toNat : Nat), .int .i64 r.tup.proto, .int .i64 r.tup.sport, .int .i64 r.tup.dport, .int .i64 r.fb, .int .i64 r.fg, .int .i64 r.fs, .int .i64 r.gen, .slice A' m' c', .int .i64 r.back, .int .i64 r.until_, .int .i64 r.count] : Array Value)[o]?) ∧ (Instr.lookup 142 (.map (some bf)) (.agg #[.int .u32 (r.tup.src.toNat : Nat), .int .u32 (r.tup.dst.toNat : Nat), .int .i64 r.tup.proto, .int .i64 r.tup.sport, .int .i64 r.tup.dport]) true).run Tryz.prog w' = .ok (.tuple #[.agg #[.int .u32 (f.tup.src.toNat : Nat), .int .u32 (f.tup.dst.toNat : Nat), .int .i64 f.tup.proto, .int .i64 f.tup.sport, .int .i64 f.tup.dport, .int .i64 f.back, .int .i64 f.gen, .int .i64 f.seen], .bool b]) w')
      (exact ⟨(Blk.kept (S := []) H5.out.blk (by (repeat (first | exact Kept.refl _ _ | apply Kept.alloc | apply Kept.drew))) (by simp)).cell, (Blk.kept (S := []) X5.out (by (repeat (first | exact Kept.refl _ _ | apply Kept.alloc | apply Kept.drew))) (by simp)).cell, HL.out _ (by (repeat (first | exact Kept.refl _ _ | apply Kept.alloc | apply Kept.drew)))⟩)
      (fail)
    all_goals
      have hk6 : Kept [] w5 (w5.alloc (.cells #[.int .u32 (f.tup.src.toNat : Nat), .int .u32 (f.tup.dst.toNat : Nat), .int .i64 f.tup.proto, .int .i64 f.tup.sport, .int .i64 f.tup.dport, .int .i64 f.back, .int .i64 f.gen, .int .i64 f.seen] 41)).drew := by (repeat (first | exact Kept.refl _ _ | apply Kept.alloc | apply Kept.drew))
      have HN6 := HN.out _ hk6
      have hc6 := (H5.out.go hk6).cells
      have HK6 := Lib.hid (HK5.out.trans hk6 (by simp))
      clear hk6
      generalize (w5.alloc (.cells #[.int .u32 (f.tup.src.toNat : Nat), .int .u32 (f.tup.dst.toNat : Nat), .int .i64 f.tup.proto, .int .i64 f.tup.sport, .int .i64 f.tup.dport, .int .i64 f.back, .int .i64 f.gen, .int .i64 f.seen] 41)).drew = w6 at *
      obtain ⟨-, -, c2, c3⟩ := hc6
      cases b
      · by_cases hn : 256 ≤ n
        · have hn' : (256 : Int) ≤ (n : Int) := by omega
          go_wp2
          go_ret
          exact ⟨by rw [hfull.out, decide_eq_true hn]; rfl, HK6.out⟩
        · have hn' : ¬ (256 : Int) ≤ (n : Int) := by omega
          go_wp2
          go_ret
          exact ⟨by rw [hfull.out, decide_eq_false hn]; rfl, HK6.out⟩
      · go_wp2
        go_ret
        exact ⟨by rw [hfull.out]; rfl, HK6.out⟩
  · have b1 : (r.kind == 1) = false := by simp [k1]
    by_cases k4 : r.kind = 4
    · have hl := Ok.out.ld
      have hfull := Lib.hid (show fullS S r = (!(getM S.drains r.back).isSome && decide (16 ≤ S.drains.length)) by unfold fullS; rw [if_neg k1, if_pos k4])
      have b4 : (r.kind == 4) = true := by simp [k4]
      clear k1 k4
      obtain ⟨z, hz⟩ : ∃ z, (getM S.drains r.back).getD 0 = z := ⟨_, rfl⟩
      have ez : ((getM S.drains r.back).map evI).getD (.int .i64 0) = .int .i64 z := by rw [← hz]; cases getM S.drains r.back <;> rfl
      have HL : ∀ n, (Instr.lookup 141 (.map (some bd)) (.int .i64 r.back) true).run Tryz.prog ((w.alloc (.cells #[.int .i64 r.kind, .int .u32 (r.tup.src.toNat : Nat), .int .u32 (r.tup.dst.toNat : Nat), .int .i64 r.tup.proto, .int .i64 r.tup.sport, .int .i64 r.tup.dport, .int .i64 r.fb, .int .i64 r.fg, .int .i64 r.fs, .int .i64 r.gen, .slice A' m' c', .int .i64 r.back, .int .i64 r.until_, .int .i64 r.count] 43)).drewN n) = .ok (.tuple #[.int .i64 z, .bool (getM S.drains r.back).isSome]) ((w.alloc (.cells #[.int .i64 r.kind, .int .u32 (r.tup.src.toNat : Nat), .int .u32 (r.tup.dst.toNat : Nat), .int .i64 r.tup.proto, .int .i64 r.tup.sport, .int .i64 r.tup.dport, .int .i64 r.fb, .int .i64 r.fg, .int .i64 r.fs, .int .i64 r.gen, .slice A' m' c', .int .i64 r.back, .int .i64 r.until_, .int .i64 r.count] 43)).drewN n) := fun n => by
        have := (H5.out.drewN n).looks.1 r.back
        rw [ez] at this
        exact this
      clear ez hz
      have HN := H5.out.lens.1
      obtain ⟨-, -, c2, c3⟩ := H5.out.cells
      generalize S.drains.length = n at *
      generalize (getM S.drains r.back).isSome = b at *
      have hx5 := X5.out.cell
      go_enter Tryz.func90, Tryz.ntmps90
      go_wp2
      generalize w.alloc (.cells #[.int .i64 r.kind, .int .u32 (r.tup.src.toNat : Nat), .int .u32 (r.tup.dst.toNat : Nat), .int .i64 r.tup.proto, .int .i64 r.tup.sport, .int .i64 r.tup.dport, .int .i64 r.fb, .int .i64 r.fg, .int .i64 r.fs, .int .i64 r.gen, .slice A' m' c', .int .i64 r.back, .int .i64 r.until_, .int .i64 r.count] 43) = w5 at *
      go_quiet (fail)
      cases b
      · by_cases hn : 16 ≤ n
        · have hn' : (16 : Int) ≤ (n : Int) := by omega
          go_wp2
          go_ret
          exact ⟨by rw [hfull.out, decide_eq_true hn]; rfl, HK5.out.drewN _⟩
        · have hn' : ¬ (16 : Int) ≤ (n : Int) := by omega
          go_wp2
          go_ret
          exact ⟨by rw [hfull.out, decide_eq_false hn]; rfl, HK5.out.drewN _⟩
      · go_wp2
        go_ret
        exact ⟨by rw [hfull.out]; rfl, HK5.out.drewN _⟩
    · have b4 : (r.kind == 4) = false := by simp [k4]
      have hfull := Lib.hid (show fullS S r = false by unfold fullS; rw [if_neg k1, if_neg k4])
      clear k1 k4
      go_enter Tryz.func90, Tryz.ntmps90
      go_wp2
      go_ret
      exact ⟨by rw [hfull.out]; rfl, HK5.out⟩
end
section
open Go.RowKit Go.ChangeShapes Go.WideShapes Go.ChangeAt Go.Deep Go.MapKept
theorem BkV.farM {κ ν : Type} {ek : κ → Value} {ev : ν → Value} {mm : List (κ × ν)} {W w w' : World} {b : Nat} {sl : Value} {l : List BackD} (h : BkV W w sl l) (hk : Kept [b] w w') (hb : MapB ek ev w b mm) (hg : W.heap.size ≤ b) : BkV W w' sl l := by
  obtain ⟨css, G, hx⟩ := h
  refine ⟨css, [], hx.own.kept hk (fun k hk' hm => ?_), hx.new, ⟨hx.decs.1, hx.decs.2⟩, by simp, hx.keptW.trans hk (fun k hk' => .inr (by simp at hk'; omega))⟩
  simp at hm
  subst hm
  obtain ⟨⟨es, clock, h1, _⟩, _⟩ := hb
  have hm := mem_rowOf.1 hk'
  rcases hx.own.2 with ⟨rfl, _⟩ | ⟨g', cap, cur, rfl, _, hg', _⟩
  · simp [Value.ownBlock] at hm
  · simp only [Value.ownBlock, Option.some.injEq] at hm
    subst hm
    rw [h1] at hg'
    cases hg'
theorem StAt.pd {W w : World} {p bd bf : Nat} {A : Option Addr} {m c : Nat} {S : StD} (h : StAt W w p bd bf A m c S) : bd ≠ p := h.md.ne_blk h.blk
theorem StAt.pf {W w : World} {p bd bf : Nat} {A : Option Addr} {m c : Nat} {S : StD} (h : StAt W w p bd bf A m c S) : bf ≠ p := h.mf.ne_blk h.blk
theorem StAt.putF {W w w' : World} {p bd bf : Nat} {A : Option Addr} {m c : Nat} {S : StD} (h : StAt W w p bd bf A m c S) {M : List (TupD × FlD)} (hm : MapB ekT evF w' bf M) (hk : Kept [bf] w w') : StAt W w' p bd bf A m c { S with flows := M } :=
  ⟨h.blk.kept hk (by simpa using fun e => h.pf e.symm), h.md.kept hk (by simpa using h.ne), hm, BkV.farM h.bk hk h.mf h.hf, h.hp, h.hd, h.hf, h.ne⟩
theorem StAt.putD {W w w' : World} {p bd bf : Nat} {A : Option Addr} {m c : Nat} {S : StD} (h : StAt W w p bd bf A m c S) {M : List (Int × Int)} (hm : MapB ekI evI w' bd M) (hk : Kept [bd] w w') : StAt W w' p bd bf A m c { S with drains := M } :=
  ⟨h.blk.kept hk (by simpa using fun e => h.pd e.symm), hm, h.mf.kept hk (by simpa using fun e => h.ne e.symm), BkV.farM h.bk hk h.md h.hd, h.hp, h.hd, h.hf, h.ne⟩
theorem StAt.putG {W w w' : World} {p bd bf : Nat} {A : Option Addr} {m c : Nat} {S : StD} (h : StAt W w p bd bf A m c S) (hk : Kept [] w w') {g : Int} {A2 : Option Addr} {m2 c2 : Nat} {l : List BackD} (hl : BkV W w' (.slice A2 m2 c2) l) :
    StAt W ((w'.setCell ⟨p, 0, none⟩ (.int .i64 g)).setCell ⟨p, 1, none⟩ (.slice A2 m2 c2)) p bd bf A2 m2 c2 { S with gen := g, backs := l } ∧ Kept [p] w ((w'.setCell ⟨p, 0, none⟩ (.int .i64 g)).setCell ⟨p, 1, none⟩ (.slice A2 m2 c2)) := by
  have hb := h.blk.kept hk (by simp)
  have hs : Kept [p] w' ((w'.setCell ⟨p, 0, none⟩ (.int .i64 g)).setCell ⟨p, 1, none⟩ (.slice A2 m2 c2)) := ((Kept.refl [p] w').setCell (.inl (by simp)) _).setCell (.inl (by simp)) _
  refine ⟨⟨?_, (h.md.kept hk (by simp)).kept hs (by simpa using h.pd), (h.mf.kept hk (by simp)).kept hs (by simpa using h.pf), BkV.far hl hs hb (by decide) h.hp, h.hp, h.hd, h.hf, h.ne⟩, (hk.mono (T := [p]) (by simp)).trans hs (by simp)⟩
  have := (hb.set 0 (.int .i64 g)).set 1 (.slice A2 m2 c2)
  simpa using this
def ApplyPost (W w : World) (p bd bf : Nat) (S : StD) (r : RecD) (e : Ending) (w' : World) : Prop :=
  e = .returned (.int .i64 (errS S r)) ∧ Kept [p, bd, bf] w w' ∧ ∃ A m c, StAt W w' p bd bf A m c (applyS S r)
theorem ApplyPost.bad {W w w' : World} {p bd bf : Nat} {A : Option Addr} {m c : Nat} {S : StD} {r : RecD} (h : StAt W w p bd bf A m c S) (hk : Kept [] w w') (hb : badS r = true) : ApplyPost W w p bd bf S r (.returned (.int .i64 1)) w' := by
  obtain ⟨e1, e2⟩ := apply_bad (s := S) hb
  exact ⟨by rw [e1], hk.mono (by simp), A, m, c, by rw [e2]; exact h.go hk⟩
theorem ApplyPost.full {W w w' : World} {p bd bf : Nat} {A : Option Addr} {m c : Nat} {S : StD} {r : RecD} (h : StAt W w p bd bf A m c S) (hk : Kept [] w w') (hb : badS r = false) (hf : fullS S r = true) : ApplyPost W w p bd bf S r (.returned (.int .i64 9)) w' := by
  obtain ⟨e1, e2⟩ := apply_full hb hf
  exact ⟨by rw [e1], hk.mono (by simp), A, m, c, by rw [e2]; exact h.go hk⟩
theorem ApplyPost.good {W w w' : World} {p bd bf : Nat} {A : Option Addr} {m c : Nat} {S S' : StD} {r : RecD} (h : StAt W w' p bd bf A m c S') (hk : Kept [p, bd, bf] w w') (hb : badS r = false) (hf : fullS S r = false) (hs : doneS S r = S') : ApplyPost W w p bd bf S r (.returned (.int .i64 0)) w' := by
  obtain ⟨e1, e2⟩ := apply_good hb hf
  exact ⟨by rw [e1], hk, A, m, c, by rw [e2, hs]; exact h⟩
theorem bad_may {r : RecD} (h : mayR r = false) : badS r = true := by simp [badS, h]
theorem bad_not {r : RecD} (h : mayR r = true) (h6 : r.kind ≠ 6) (h3 : r.kind ≠ 3) : badS r = false := by simp [badS, h, h6, h3]
end
end Go.Proofs.YtkacghjglicjiaaGreat
