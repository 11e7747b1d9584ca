
/-
  Plain laws of what is read back: a record's body, parsed.
-/
import Derived.Test.YtoibecclilmllaaRecW
import Derived.Test.YtoibecclilmllaaFrameM
namespace Go.Proofs.Ytoibecclilmllaa
open Go.RowKit
set_option linter.unusedVariables false

/-- k bytes read as a number: of bytes that are there (some), behind an error (none) -/
def gk (o : Option (List UInt8)) (k : Nat) : Nat := match o with
  | none => 0
  | some bs => if bs.length < k then 0 else num (bs.take k)
def nk (o : Option (List UInt8)) (k : Nat) : Option (List UInt8) := match o with
  | none => none
  | some bs => if bs.length < k then none else some (bs.drop k)
theorem gk_lt (o : Option (List UInt8)) (k : Nat) : gk o k < 256 ^ k := by
  cases o with
  | none => exact Nat.pow_pos (by omega)
  | some bs =>
    unfold gk
    dsimp only
    split
    · exact Nat.pow_pos (by omega)
    · have := num_lt (bs.take k)
      rwa [List.length_take, Nat.min_eq_left (by omega)] at this
theorem gk_app {cs rest : List UInt8} {k : Nat} (h : cs.length = k) : gk (some (cs ++ rest)) k = num cs := by
  subst h
  simp only [gk, List.length_append]
  rw [if_neg (by omega), List.take_left']
  rfl
theorem nk_app {cs rest : List UInt8} {k : Nat} (h : cs.length = k) : nk (some (cs ++ rest)) k = some rest := by
  subst h
  simp only [nk, List.length_append]
  rw [if_neg (by omega), List.drop_left']
  rfl
theorem nk_inv {o : Option (List UInt8)} {k : Nat} {r : List UInt8} (h : nk o k = some r) : ∃ cs, o = some (cs ++ r) ∧ cs.length = k ∧ gk o k = num cs := by
  cases o with
  | none => cases h
  | some bs =>
    simp only [nk] at h
    split at h
    · cases h
    · rename_i hl
      injection h with h
      subst h
      refine ⟨bs.take k, by rw [List.take_append_drop], by rw [List.length_take]; omega, ?_⟩
      simp only [gk]
      rw [if_neg hl]
theorem nk_none (k : Nat) : nk none k = none := rfl
theorem gk_none (k : Nat) : gk none k = 0 := rfl
theorem be_num (cs : List UInt8) : beK (num cs) cs.length cs.length = cs := by
  have h : ∀ (l : List UInt8), beK (num l.reverse) l.length l.length = l.reverse := by
    intro l
    induction l with
    | nil => rfl
    | cons b l ih =>
      rw [List.reverse_cons, num_snoc, List.length_cons, beK_succ]
      have hb := b.toNat_lt
      congr 1
      · refine Eq.trans ?_ ih
        unfold beK
        apply List.map_congr_left
        intro i hi
        have hi := List.mem_range.1 hi
        congr 1
        rw [show 8 * (l.length + 1 - 1 - i) = 8 + 8 * (l.length - 1 - i) by omega, Nat.pow_add, ← Nat.div_div_eq_div_mul]
        congr 1
        omega
      · simp
  have := h cs.reverse
  simpa using this
theorem beN {cs : List UInt8} {k : Nat} (h : cs.length = k) : beK (num cs) k k = cs := by subst h; exact be_num cs
theorem num_le {cs : List UInt8} {k : Nat} (h : cs.length = k) : num cs < 256 ^ k := by subst h; exact num_lt cs
-- numbers there and back
theorem g8 {n : Int} (h0 : 0 ≤ n) (h1 : n ≤ 255) : ((num (u8B n) : Nat) : Int) = n := by rw [u8B, num_beK']; unfold nat64; omega
theorem g16 {n : Int} (h : inB n 65535 = true) : ((num (u16B n) : Nat) : Int) = n := by
  simp [inB] at h
  rw [u16B, num_beK']; unfold nat64; omega
theorem g32 {n : Int} (h : inB n 1000000 = true) : ((num (u32B n) : Nat) : Int) = n := by
  simp [inB] at h
  rw [u32B, num_beK']; unfold u32n; omega
theorem g64 {n : Int} (h : timeB n = true) : wrap64 ((num (i64B n) : Nat) : Int) = n := by
  simp [inB, timeB] at h
  rw [i64B, num_beK']; unfold nat64 wrap64; omega
theorem gad (x : UInt32) : UInt32.ofNat (num (beK x.toNat 4 4)) = x := by
  rw [num_beK', show (256 : Nat) ^ 4 = 4294967296 by decide, Nat.mod_eq_of_lt x.toNat_lt]
  exact UInt32.ofNat_toNat
theorem b8 {cs : List UInt8} (h : cs.length = 1) : u8B ((num cs : Nat) : Int) = cs := by
  have := num_le h
  rw [u8B, nat64_small _ (by omega), beN h]
theorem b16 {cs : List UInt8} (h : cs.length = 2) : u16B ((num cs : Nat) : Int) = cs := by
  have := num_le h
  rw [u16B, nat64_small _ (by omega), beN h]
theorem b32 {cs : List UInt8} (h : cs.length = 4) : u32B ((num cs : Nat) : Int) = cs := by
  have := num_le h
  rw [u32B, show u32n ((num cs : Nat) : Int) = num cs by unfold u32n; omega, beN h]
theorem b64 {cs : List UInt8} (h : cs.length = 8) : i64B (wrap64 ((num cs : Nat) : Int)) = cs := by
  have := num_le h
  rw [i64B, show nat64 (wrap64 ((num cs : Nat) : Int)) = num cs by unfold nat64 wrap64; omega, beN h]
theorem bad {cs : List UInt8} (h : cs.length = 4) : beK (UInt32.ofNat (num cs)).toNat 4 4 = cs := by
  have := num_le h
  rw [UInt32.toNat_ofNat', Nat.mod_eq_of_lt (by omega), beN h]

/-- the fields of thirteen bytes -/
def tupOf (o : Option (List UInt8)) : TupD := ⟨UInt32.ofNat (gk o 4), UInt32.ofNat (gk (nk o 4) 4), gk (nk (nk o 4) 4) 1, gk (nk (nk (nk o 4) 4) 1) 2, gk (nk (nk (nk (nk o 4) 4) 1) 2) 2⟩
def nkT (o : Option (List UInt8)) : Option (List UInt8) := nk (nk (nk (nk (nk o 4) 4) 1) 2) 2
theorem nkT_eq (o : Option (List UInt8)) : nkT o = nk o 13 := by
  cases o with
  | none => rfl
  | some bs =>
    unfold nkT
    by_cases h : bs.length < 13
    · have : nk (some bs) 13 = none := by simp [nk, h]
      rw [this]
      cases he : nk (nk (nk (nk (nk (some bs) 4) 4) 1) 2) 2 with
      | none => rfl
      | some r =>
        obtain ⟨c1, e1, l1, -⟩ := nk_inv he
        obtain ⟨c2, e2, l2, -⟩ := nk_inv e1
        obtain ⟨c3, e3, l3, -⟩ := nk_inv e2
        obtain ⟨c4, e4, l4, -⟩ := nk_inv e3
        obtain ⟨c5, e5, l5, -⟩ := nk_inv e4
        injection e5 with e5
        subst e5
        simp at h
        omega
    · simp only [nk]
      rw [if_neg (by omega)]
      dsimp only
      rw [if_neg (by simp; omega)]
      dsimp only
      rw [if_neg (by simp; omega)]
      dsimp only
      rw [if_neg (by simp; omega)]
      dsimp only
      rw [if_neg (by simp; omega)]
      simp
      omega
/-- a tuple read -/
def rdT (o : Option (List UInt8)) : TupD × Bool := if (nk o 13).isSome && mayT (tupOf o) then (tupOf o, true) else (default, false)
theorem tupB_split (t : TupD) (rest : List UInt8) : tupB t ++ rest = beK t.src.toNat 4 4 ++ (beK t.dst.toNat 4 4 ++ (u8B t.proto ++ (u16B t.sport ++ (u16B t.dport ++ rest)))) := by simp [tupB]
theorem rdT_enc {t : TupD} (h : mayT t = true) (rest : List UInt8) : rdT (some (tupB t ++ rest)) = (t, true) ∧ nk (some (tupB t ++ rest)) 13 = some rest := by
  have h1 : nk (some (tupB t ++ rest)) 13 = some rest := nk_app (tupB_len t)
  refine ⟨?_, h1⟩
  have h2 : tupOf (some (tupB t ++ rest)) = t := by
    have hm := h
    simp [mayT] at hm
    rw [tupB_split]
    unfold tupOf
    simp only [gk_app (beK_len _ _ _), nk_app (beK_len _ _ _), gk_app (u8B_len _), nk_app (u8B_len _), gk_app (u16B_len _), nk_app (u16B_len _), gad]
    rw [g8 (by omega) (by omega), g16 (by simp [inB]; omega), g16 (by simp [inB]; omega)]
  unfold rdT
  rw [h1, h2, h]
  rfl
theorem rdT_inv {o : Option (List UInt8)} {r : List UInt8} {t : TupD} (h : rdT o = (t, true)) (hn : nk o 13 = some r) : o = some (tupB t ++ r) ∧ mayT t = true := by
  unfold rdT at h
  rw [hn] at h
  split at h
  · rename_i hm
    simp at hm
    injection h with h _
    subst h
    refine ⟨?_, hm⟩
    rw [← nkT_eq] at hn
    unfold nkT at hn
    obtain ⟨c5, e5, l5, g5⟩ := nk_inv hn
    obtain ⟨c4, e4, l4, g4⟩ := nk_inv e5
    obtain ⟨c3, e3, l3, g3⟩ := nk_inv e4
    obtain ⟨c2, e2, l2, g2⟩ := nk_inv e3
    obtain ⟨c1, e1, l1, g1⟩ := nk_inv e2
    rw [tupB_split]
    unfold tupOf
    rw [g1, g2, g3, g4, g5]
    dsimp only
    rw [bad l1, bad l2, b8 l3, b16 l4, b16 l5, e1]
  · injection h with _ h
    cases h

/-- a backend read -/
def rdB (v : Int) (o : Option (List UInt8)) : BackD × Option (List UInt8) :=
  (⟨gk o 2, UInt32.ofNat (gk (nk o 2) 4), if 2 ≤ v then gk (nk (nk o 2) 4) 1 else 1⟩, if 2 ≤ v then nk (nk (nk o 2) 4) 1 else nk (nk o 2) 4)
def rdBs (v : Int) : Nat → Option (List UInt8) → List BackD × Option (List UInt8)
  | 0, o => ([], o)
  | k + 1, o => ((rdBs v k o).1 ++ [(rdB v (rdBs v k o).2).1], (rdB v (rdBs v k o).2).2)
theorem rdBs_len (v : Int) (o : Option (List UInt8)) : ∀ k, (rdBs v k o).1.length = k
  | 0 => rfl
  | k + 1 => by simp [rdBs, rdBs_len v o k]
/-- what a backend is behind a format -/
def backIn (v : Int) (b : BackD) : BackD := if v < 2 then light1 b else b
theorem rdB_enc {v : Int} {b : BackD} (h : mayB b = true) (rest : List UInt8) : rdB v (some (backB v b ++ rest)) = (backIn v b, some rest) := by
  simp [mayB] at h
  obtain ⟨h1, h2, h3⟩ := h
  unfold rdB backB backIn light1
  by_cases hv : 2 ≤ v
  · rw [if_pos hv, if_pos hv, if_pos hv, if_neg (by omega)]
    simp only [List.append_assoc]
    simp only [gk_app (beK_len _ _ _), nk_app (beK_len _ _ _), gk_app (u8B_len _), nk_app (u8B_len _), gk_app (u16B_len _), nk_app (u16B_len _), gad]
    rw [g8 (by omega) (by omega), g16 h1]
  · rw [if_neg hv, if_neg hv, if_neg hv, if_pos (by omega)]
    simp only [List.append_assoc, List.append_nil]
    simp only [gk_app (beK_len _ _ _), nk_app (beK_len _ _ _), gk_app (u16B_len _), nk_app (u16B_len _), gad]
    rw [g16 h1]
theorem rdB_inv {v : Int} {o : Option (List UInt8)} {r : List UInt8} (h : (rdB v o).2 = some r) : o = some (backB v (rdB v o).1 ++ r) := by
  unfold rdB at h ⊢
  unfold backB
  dsimp only at h ⊢
  by_cases hv : 2 ≤ v
  · simp only [if_pos hv] at h ⊢
    obtain ⟨c3, e3, l3, g3⟩ := nk_inv h
    obtain ⟨c2, e2, l2, g2⟩ := nk_inv e3
    obtain ⟨c1, e1, l1, g1⟩ := nk_inv e2
    rw [g1, g2, g3, bad l2, b16 l1, b8 l3, e1]
    simp
  · simp only [if_neg hv] at h ⊢
    obtain ⟨c2, e2, l2, g2⟩ := nk_inv h
    obtain ⟨c1, e1, l1, g1⟩ := nk_inv e2
    rw [g1, g2, bad l2, b16 l1, e1]
    simp
theorem rdBs_enc {v : Int} : ∀ (l : List BackD) (rest : List UInt8), l.all mayB = true → rdBs v l.length (some (l.flatMap (backB v) ++ rest)) = (l.map (backIn v), some rest) := by
  intro l
  have h : ∀ (m : List BackD) (rest : List UInt8), m.all mayB = true → rdBs v m.length (some (m.reverse.flatMap (backB v) ++ rest)) = (m.reverse.map (backIn v), some rest) := by
    intro m
    induction m with
    | nil => intro rest _; simp [rdBs]
    | cons b m ih =>
      intro rest ha
      simp only [List.all_cons, Bool.and_eq_true] at ha
      rw [List.length_cons, List.reverse_cons, List.flatMap_append, List.append_assoc]
      have e := ih ([b].flatMap (backB v) ++ rest) ha.2
      have e2 : [b].flatMap (backB v) = backB v b := by simp
      rw [e2] at e ⊢
      rw [rdBs, e]
      dsimp only
      rw [rdB_enc ha.1]
      simp
  intro rest ha
  have := h l.reverse rest (by simpa using ha)
  simpa using this
theorem rdBs_inv {v : Int} {o : Option (List UInt8)} : ∀ (k : Nat) (r : List UInt8), (rdBs v k o).2 = some r → o = some ((rdBs v k o).1.flatMap (backB v) ++ r)
  | 0, r, h => by simpa [rdBs] using h
  | k + 1, r, h => by
    rw [rdBs] at h ⊢
    dsimp only at h ⊢
    have h1 := rdB_inv h
    have h2 := rdBs_inv k _ h1
    rw [List.flatMap_append, List.append_assoc]
    simpa using h2

/-- a body read: the record, was its tuple one, what is left -/
def rdR (cap : Nat) (k v : Int) (o : Option (List UInt8)) : RecD × Bool × Option (List UInt8) :=
  if k = 1 then ({ (default : RecD) with kind := k, tup := (rdT o).1, fb := gk (nk o 13) 2, fg := if 2 ≤ v then gk (nk (nk o 13) 2) 4 else 0, fs := if 3 ≤ v then wrap64 (gk (if 2 ≤ v then nk (nk (nk o 13) 2) 4 else nk (nk o 13) 2) 8 : Nat) else 0 }, (rdT o).2,
      if 3 ≤ v then nk (if 2 ≤ v then nk (nk (nk o 13) 2) 4 else nk (nk o 13) 2) 8 else if 2 ≤ v then nk (nk (nk o 13) 2) 4 else nk (nk o 13) 2)
  else if k = 2 then ({ (default : RecD) with kind := k, tup := (rdT o).1 }, (rdT o).2, nk o 13)
  else if k = 3 then ({ (default : RecD) with kind := k, gen := gk o 4, backs := (rdBs v (min (gk (nk o 4) 1) cap) (nk (nk o 4) 1)).1 }, true, (rdBs v (min (gk (nk o 4) 1) cap) (nk (nk o 4) 1)).2)
  else if k = 4 then ({ (default : RecD) with kind := k, back := gk o 2, until_ := wrap64 (gk (nk o 2) 8 : Nat) }, true, nk (nk o 2) 8)
  else if k = 5 then ({ (default : RecD) with kind := k, back := gk o 2 }, true, nk o 2)
  else if k = 6 then ({ (default : RecD) with kind := k, count := gk o 4 }, true, nk o 4)
  else ({ (default : RecD) with kind := k }, true, o)
def goodR (cap : Nat) (k v : Int) (bs : List UInt8) : Bool := (rdR cap k v (some bs)).2.1 && ((rdR cap k v (some bs)).2.2 == some [] && mayR (rdR cap k v (some bs)).1)
theorem rdR_kind (cap : Nat) (k v : Int) (o : Option (List UInt8)) : (rdR cap k v o).1.kind = k := by
  unfold rdR
  repeat' split
  all_goals rfl
theorem goodR_cap {cap : Nat} (hc : 17 ≤ cap) (k v : Int) (bs : List UInt8) : goodR cap k v bs = goodR 17 k v bs ∧ (goodR 17 k v bs = true → rdR cap k v (some bs) = rdR 17 k v (some bs)) := by
  by_cases h3 : k = 3
  · subst h3
    by_cases hn : gk (nk (some bs) 4) 1 ≤ 17
    · have : rdR cap 3 v (some bs) = rdR 17 3 v (some bs) := by
        have e : min (gk (nk (some bs) 4) 1) cap = min (gk (nk (some bs) 4) 1) 17 := by omega
        unfold rdR
        simp only [e]
      exact ⟨by unfold goodR; rw [this], fun _ => this⟩
    · have h : ∀ c, 17 ≤ c → goodR c 3 v bs = false := fun c hc => by
        have hl : ¬ (rdR c 3 v (some bs)).1.backs.length ≤ 16 := by
          simp [rdR, rdBs_len]; omega
        have : mayR (rdR c 3 v (some bs)).1 = false := by
          unfold mayR
          rw [rdR_kind]
          simp [hl]
        simp [goodR, this]
      rw [h cap hc, h 17 (by omega)]
      exact ⟨rfl, fun h => by cases h⟩
  · have : rdR cap k v (some bs) = rdR 17 k v (some bs) := by unfold rdR; simp [h3]
    exact ⟨by unfold goodR; rw [this], fun _ => this⟩
theorem may_in {r : RecD} {v : Int} (hv : verB v = true) (h : mayR r = true) : mayR (inR r v) = true := by
  have hp : mayR (plainR r) = true := by rw [may_plain]; exact h
  have hk := plain_kind r
  unfold inR
  rw [if_neg (by simp [hv])]
  generalize plainR r = p at hp
  have h0 : inB 0 1000000 = true := rfl
  have h1 : timeB 0 = true := rfl
  simp only [mayR] at hp ⊢
  split
  · rename_i k
    rw [if_pos k] at hp
    simp only [Bool.and_eq_true] at hp ⊢
    exact ⟨hp.1, hp.2.1, by split; exact h0; exact hp.2.2.1, by split; exact h1; exact hp.2.2.2⟩
  rename_i k1
  rw [if_neg k1] at hp
  split
  · rename_i k; rw [if_pos k] at hp; exact hp
  rename_i k2
  rw [if_neg k2] at hp
  split
  · rename_i k
    rw [if_pos k] at hp
    simp only [Bool.and_eq_true] at hp ⊢
    refine ⟨hp.1, ?_, ?_⟩
    · split
      · simpa using hp.2.1
      · exact hp.2.1
    · split
      · have := hp.2.2
        simp only [List.all_eq_true, List.mem_map] at this ⊢
        rintro x ⟨y, hy, rfl⟩
        have := this y hy
        simp [mayB, light1] at this ⊢
        exact this.1
      · exact hp.2.2
  rename_i k3
  rw [if_neg k3] at hp
  exact hp
/-- WHAT IS WRITTEN IS READ -/
theorem dec_enc {r : RecD} {v : Int} (hv : verB v = true) (h : mayR r = true) (cap : Nat) (hc : 17 ≤ cap) : rdR cap r.kind v (some (bodyR r v)) = (inR r v, true, some []) := by
  have hv13 : v = 1 ∨ v = 2 ∨ v = 3 := by simp [verB] at hv; omega
  have hin : inR r v = { plainR r with fg := if v < 2 then 0 else (plainR r).fg, fs := if v < 3 then 0 else (plainR r).fs, backs := if v < 2 then (plainR r).backs.map light1 else (plainR r).backs } := by
    unfold inR; rw [if_neg (by simp [hv])]
  rw [hin]
  have hk := may_kind h
  have hcc : r.kind = 1 ∨ r.kind = 2 ∨ r.kind = 3 ∨ r.kind = 4 ∨ r.kind = 5 ∨ r.kind = 6 := by omega
  rcases hcc with k | k | k | k | k | k
  · have hm : (mayT r.tup && (inB r.fb 65535 && (inB r.fg 1000000 && timeB r.fs))) = true := by simpa [mayR, k] using h
    simp only [Bool.and_eq_true] at hm
    obtain ⟨m1, m2, m3, m4⟩ := hm
    rcases hv13 with rfl | rfl | rfl
    · have e : bodyR r 1 = tupB r.tup ++ (u16B r.fb ++ []) := by simp [bodyR, k]
      rw [e]
      simp only [rdR, k, (rdT_enc m1 _).1, (rdT_enc m1 _).2, gk_app (u16B_len _), nk_app (u16B_len _), g16 m2]
      simp [plainR, k, default]
    · have e : bodyR r 2 = tupB r.tup ++ (u16B r.fb ++ (u32B r.fg ++ [])) := by simp [bodyR, k]
      rw [e]
      simp only [rdR, k, (rdT_enc m1 _).1, (rdT_enc m1 _).2, gk_app (u16B_len _), nk_app (u16B_len _), g16 m2, gk_app (u32B_len _), nk_app (u32B_len _), g32 m3]
      simp [plainR, k, default]
    · have e : bodyR r 3 = tupB r.tup ++ (u16B r.fb ++ (u32B r.fg ++ (i64B r.fs ++ []))) := by simp [bodyR, k]
      rw [e]
      simp only [rdR, k, (rdT_enc m1 _).1, (rdT_enc m1 _).2, gk_app (u16B_len _), nk_app (u16B_len _), g16 m2, gk_app (u32B_len _), nk_app (u32B_len _), g32 m3]
      simp only [show (2 : Int) ≤ 3 by omega, if_true, gk_app (i64B_len _), nk_app (i64B_len _), g64 m4]
      simp [plainR, k, default]
  · have hm : mayT r.tup = true := by simpa [mayR, k] using h
    have e : bodyR r v = tupB r.tup ++ [] := by simp [bodyR, k]
    rw [e]
    simp only [rdR, k, (rdT_enc hm _).1, (rdT_enc hm _).2]
    simp [plainR, k, default]
  · have hm : (inB r.gen 1000000 && (decide (r.backs.length ≤ 16) && r.backs.all mayB)) = true := by simpa [mayR, k] using h
    simp only [Bool.and_eq_true, decide_eq_true_eq] at hm
    obtain ⟨m1, m2, m3⟩ := hm
    have e : bodyR r v = u32B r.gen ++ (u8B r.backs.length ++ (r.backs.flatMap (backB v) ++ [])) := by simp [bodyR, k]
    rw [e]
    have hn : min (num (u8B r.backs.length)) cap = r.backs.length := by
      have := g8 (n := r.backs.length) (by omega) (by omega)
      omega
    simp only [rdR, k, gk_app (u32B_len _), nk_app (u32B_len _), gk_app (u8B_len _), nk_app (u8B_len _), g32 m1, hn, rdBs_enc _ _ m3]
    have hb : ∀ v : Int, (if v < 2 then r.backs.map light1 else r.backs) = r.backs.map (backIn v) := by
      intro v
      by_cases hv : v < 2
      · rw [if_pos hv]; simp [backIn, hv]
      · rw [if_neg hv]
        have : backIn v = id := by funext b; simp [backIn, hv]
        rw [this, List.map_id]
    simp [plainR, k, default, hb]
  · have hm : (inB r.back 65535 && timeB r.until_) = true := by simpa [mayR, k] using h
    simp only [Bool.and_eq_true] at hm
    have e : bodyR r v = u16B r.back ++ (i64B r.until_ ++ []) := by simp [bodyR, k]
    rw [e]
    simp only [rdR, k, gk_app (u16B_len _), nk_app (u16B_len _), gk_app (i64B_len _), nk_app (i64B_len _), g16 hm.1, g64 hm.2]
    simp [plainR, k, default]
  · have hm : inB r.back 65535 = true := by simpa [mayR, k] using h
    have e : bodyR r v = u16B r.back ++ [] := by simp [bodyR, k]
    rw [e]
    simp only [rdR, k, gk_app (u16B_len _), nk_app (u16B_len _), g16 hm]
    simp [plainR, k, default]
  · have hm : inB r.count 1000000 = true := by simpa [mayR, k] using h
    have e : bodyR r v = u32B r.count ++ [] := by simp [bodyR, k]
    rw [e]
    simp only [rdR, k, gk_app (u32B_len _), nk_app (u32B_len _), g32 hm]
    simp [plainR, k, default]
/-- WHAT IS READ IS WRITTEN SO -/
theorem enc_dec {k v : Int} {bs : List UInt8} (hv : verB v = true) (h : goodR 17 k v bs = true) : bodyR (rdR 17 k v (some bs)).1 v = bs ∧ mayR (rdR 17 k v (some bs)).1 = true := by
  have hv13 : v = 1 ∨ v = 2 ∨ v = 3 := by simp [verB] at hv; omega
  unfold goodR at h
  simp only [Bool.and_eq_true, beq_iff_eq] at h
  obtain ⟨h1, h2, h3⟩ := h
  refine ⟨?_, h3⟩
  have hk := may_kind h3
  rw [rdR_kind] at hk
  have hcc : k = 1 ∨ k = 2 ∨ k = 3 ∨ k = 4 ∨ k = 5 ∨ k = 6 := by omega
  rcases hcc with rfl | rfl | rfl | rfl | rfl | rfl
  · simp only [rdR, if_true] at h1 h2 ⊢
    have hT : rdT (some bs) = ((rdT (some bs)).1, true) := by rw [← h1]
    generalize (rdT (some bs)).1 = t at *
    unfold bodyR
    simp only [if_true]
    rcases hv13 with rfl | rfl | rfl
    · simp at h2 ⊢
      obtain ⟨c1, e1, l1, g1⟩ := nk_inv h2
      obtain ⟨e0, -⟩ := rdT_inv hT e1
      injection e0 with e0
      rw [g1, b16 l1, e0]; simp
    · simp at h2 ⊢
      obtain ⟨c2, e2, l2, g2⟩ := nk_inv h2
      obtain ⟨c1, e1, l1, g1⟩ := nk_inv e2
      obtain ⟨e0, -⟩ := rdT_inv hT e1
      injection e0 with e0
      rw [g1, g2, b16 l1, b32 l2, e0]; simp
    · simp at h2 ⊢
      obtain ⟨c3, e3, l3, g3⟩ := nk_inv h2
      obtain ⟨c2, e2, l2, g2⟩ := nk_inv e3
      obtain ⟨c1, e1, l1, g1⟩ := nk_inv e2
      obtain ⟨e0, -⟩ := rdT_inv hT e1
      injection e0 with e0
      rw [g1, g2, g3, b16 l1, b32 l2, b64 l3, e0]; simp
  · simp [rdR] at h1 h2 ⊢
    have hT : rdT (some bs) = ((rdT (some bs)).1, true) := by rw [← h1]
    obtain ⟨e0, -⟩ := rdT_inv hT h2
    injection e0 with e0
    simp [bodyR]
    rw [List.append_nil] at e0
    exact e0.symm
  · have hl : ((rdR 17 3 v (some bs)).1.backs.length : Int) ≤ 16 := by
      have := h3
      unfold mayR at this
      rw [rdR_kind] at this
      simp at this
      omega
    have hn : gk (nk (some bs) 4) 1 ≤ 16 := by
      simp only [rdR, show ¬ (3 : Int) = 1 by omega, show ¬ (3 : Int) = 2 by omega, if_false, if_true, rdBs_len] at hl
      omega
    have hm : min (gk (nk (some bs) 4) 1) 17 = gk (nk (some bs) 4) 1 := by omega
    simp only [rdR, show ¬ (3 : Int) = 1 by omega, show ¬ (3 : Int) = 2 by omega, if_false, if_true, hm] at h2 ⊢
    have e3 := rdBs_inv _ _ h2
    obtain ⟨c2, e2, l2, g2⟩ := nk_inv e3
    obtain ⟨c1, e1, l1, g1⟩ := nk_inv e2
    have e : ∀ r : RecD, r.kind = 3 → bodyR r v = u32B r.gen ++ u8B r.backs.length ++ r.backs.flatMap (backB v) := fun r k => by simp [bodyR, k]
    rw [e _ rfl]
    dsimp only
    rw [rdBs_len, g1, g2, b32 l1, b8 l2]
    injection e1 with e1
    rw [g2, List.append_nil] at e1
    rw [List.append_assoc]
    exact e1.symm
  · simp [rdR] at h2 ⊢
    obtain ⟨c2, e2, l2, g2⟩ := nk_inv h2
    obtain ⟨c1, e1, l1, g1⟩ := nk_inv e2
    simp [bodyR]
    rw [g1, g2, b16 l1, b64 l2]
    injection e1 with e1
    rw [e1]; simp
  · simp [rdR] at h2 ⊢
    obtain ⟨c1, e1, l1, g1⟩ := nk_inv h2
    simp [bodyR]
    rw [g1, b16 l1]
    injection e1 with e1
    rw [e1]; simp
  · simp [rdR] at h2 ⊢
    obtain ⟨c1, e1, l1, g1⟩ := nk_inv h2
    simp [bodyR]
    rw [g1, b32 l1]
    injection e1 with e1
    rw [e1]; simp
end Go.Proofs.Ytoibecclilmllaa
