/-
  Plain laws of texts that are read: decimals, addresses, sets of backends. (GensForms)
-/
import Derived.Lib.AtoiAll
import Derived.Lib.ItoaMem
import Derived.Lib.Join
import Derived.Test.YtgndijdhmkphaaaGreatDoorGenU
namespace Go.Proofs.YtgndijdhmkphaaaGreatDoor
set_option linter.unusedVariables false
section
open Go.RowKit
set_option maxRecDepth 100000
theorem dec_len (k n : Nat) (h : n < 10 ^ (k + 1)) : (Lib.decDigits n).length ≤ k + 1 := (dec_pad k n h).1
theorem isD_iff {c : UInt8} : isD c = true ↔ 48 ≤ c.toNat ∧ c.toNat ≤ 57 := by simp [isD]
theorem dec_ne (n : Nat) : Lib.decDigits n ≠ [] := fun e => by
  have := Lib.decDigits_length n; rw [e] at this; rw [Lib.nDigits] at this; split at this <;> simp at this
theorem dec_okD (n : Nat) : okD (Lib.decDigits n) = true := by
  unfold okD; rw [List.all_eq_true]; exact fun c hc => isD_iff.2 (dec_digs n c hc)
theorem dig_back {c : UInt8} (h : isD c = true) : UInt8.ofNat (48 + (c.toNat - 48)) = c := by
  have := isD_iff.1 h
  rw [show 48 + (c.toNat - 48) = c.toNat by omega]; simp
theorem dec_num : ∀ (k : Nat) (l : List UInt8), l.length = k → okD l = true → l ≠ [] → (l.head? = some 48 → l = [48]) → Lib.decDigits (numV l) = l
  | 0, l, hk, _, hn, _ => absurd (List.length_eq_zero_iff.1 hk) hn
  | k + 1, l, hk, ho, hn, hz => by
    rcases List.eq_nil_or_concat l with rfl | ⟨m, c, rfl⟩
    · exact absurd rfl hn
    · rw [List.concat_eq_append] at *
      rw [okD_snoc, Bool.and_eq_true] at ho
      have hc := isD_iff.1 ho.2
      by_cases hm : m = []
      · subst hm
        have e : numV ([] ++ [c]) = c.toNat - 48 := by rw [numV_snoc]; simp [numV]
        rw [e, Lib.decDigits_one (by omega), dig_back ho.2]; rfl
      · obtain ⟨a, m', rfl⟩ : ∃ a m', m = a :: m' := by cases m with | nil => exact absurd rfl hm | cons a m' => exact ⟨a, m', rfl⟩
        have h48 : ¬ (a = 48) := fun e => by
          have := hz (by simp [e]); simp at this
        have ih := dec_num k (a :: m') (by simpa using hk) ho.1 (by simp) (by simp [h48])
        have h1 : numV (a :: m') ≠ 0 := fun e => by
          rw [e, Lib.decDigits_one (by omega)] at ih
          simp at ih
          exact h48 ih.1.symm
        rw [numV_snoc, dec_step (by omega), show (numV (a :: m') * 10 + (c.toNat - 48)) / 10 = numV (a :: m') by omega, show (numV (a :: m') * 10 + (c.toNat - 48)) % 10 = c.toNat - 48 by omega, ih, dig_back ho.2]
theorem dec_head {n : Nat} (h : 1 ≤ n) : (Lib.decDigits n).head? ≠ some 48 := by
  intro e
  obtain ⟨r, hr⟩ : ∃ r, Lib.decDigits n = 48 :: r := by
    cases hd : Lib.decDigits n with
    | nil => rw [hd] at e; simp at e
    | cons a r => rw [hd] at e; simp at e; exact ⟨r, by rw [e]⟩
  have hv := dec_val n
  have ho := dec_okD n
  rw [hr] at hv ho
  have hz : numV (48 :: r) = numV r := by simp [numV]
  rw [hz] at hv
  have ho2 : okD r = true := by simp only [okD, List.all_cons, Bool.and_eq_true] at ho; exact ho.2
  have hl := congrArg List.length hr
  rw [List.length_cons] at hl
  by_cases hk : n < 10
  · rw [Lib.decDigits_one hk] at hr
    have h48 := congrArg UInt8.toNat (List.cons.inj hr).1
    rw [UInt8.toNat_ofNat', Nat.mod_eq_of_lt (by omega)] at h48
    have : (48 : UInt8).toNat = 48 := rfl
    omega
  · have hlt := numV_lt r ho2
    rw [hv] at hlt
    have : r ≠ [] := fun e => by rw [e] at hlt; simp at hlt; omega
    have := dec_len (r.length - 1) n (by rw [show r.length - 1 + 1 = r.length by have := List.length_pos_iff.2 this; omega]; exact hlt)
    have := List.length_pos_iff.2 ‹r ≠ []›
    omega
def canon (s : List UInt8) : Option Int := match Lib.atoiAll s with | .ok n => if Lib.itoa n = s then some n else none | _ => none
theorem atoi_in {s : List UInt8} {n : Int} (h : Lib.atoiAll s = .ok n) : inI n := by
  unfold Lib.atoiAll at h
  split at h
  · cases h
  · dsimp only at h
    split at h
    · cases h
    · cases h
    · split at h
      · cases h
      · split at h
        · cases h
        · injection h with h
          unfold inI
          split at h <;> omega
theorem canon_iff {s : List UInt8} {n : Int} : canon s = some n ↔ inI n ∧ Lib.itoa n = s := by
  unfold canon
  constructor
  · intro h
    split at h
    · rename_i m hm
      split at h
      · rename_i he
        injection h with h
        subst h
        exact ⟨atoi_in hm, he⟩
      · cases h
    · cases h
  · rintro ⟨h1, h2⟩
    rw [← h2, atoi_itoa n h1.1 h1.2]
    simp
def numR (s : List UInt8) : Option Int :=
  if (if s.head? = some 45 then s.drop 1 else s) = [] ∨ 19 < (if s.head? = some 45 then s.drop 1 else s).length ∨ ((if s.head? = some 45 then s.drop 1 else s).head? = some 48 ∧ s ≠ [48]) then none
  else if okD (if s.head? = some 45 then s.drop 1 else s) = false then none
  else if s.head? = some 45 then (if numV (s.drop 1) ≤ 9223372036854775808 then some (-(numV (s.drop 1) : Int)) else none)
  else (if numV s < 9223372036854775808 then some (numV s : Int) else none)
theorem numR_iff {s : List UInt8} {n : Int} : numR s = some n ↔ inI n ∧ Lib.itoa n = s := by
  unfold numR
  constructor
  · intro h
    by_cases hs : s.head? = some 45
    · simp only [hs, if_true] at h
      split at h
      · cases h
      · rename_i h1
        simp only [not_or] at h1
        split at h
        · cases h
        · rename_i h2
          split at h
          · rename_i h3
            injection h with h
            obtain ⟨r, rfl⟩ : ∃ r, s = 45 :: r := by cases s with | nil => simp at hs | cons a r => simp at hs; exact ⟨r, by rw [hs]⟩
            simp only [List.drop_succ_cons, List.drop_zero] at *
            have h0 : ¬ r.head? = some 48 := fun e => h1.2.2 ⟨e, by simp⟩
            have hd := dec_num _ r rfl (by simpa using h2) h1.1 (fun e => absurd e h0)
            have hp : numV r ≠ 0 := fun e => by
              rw [e, Lib.decDigits_one (by omega)] at hd
              exact h0 (by rw [← hd]; rfl)
            subst h
            exact ⟨⟨by omega, by omega⟩, by rw [Lib.itoa_neg _ (by omega), hd]⟩
          · cases h
    · simp only [hs, if_false] at h
      split at h
      · cases h
      · rename_i h1
        simp only [not_or] at h1
        split at h
        · cases h
        · rename_i h2
          split at h
          · rename_i h3
            injection h with h
            have hd := dec_num _ s rfl (by simpa using h2) h1.1 (fun e => Classical.byContradiction fun e2 => h1.2.2 ⟨e, e2⟩)
            subst h
            exact ⟨⟨by omega, by omega⟩, by rw [Lib.itoa_nonneg, hd]⟩
          · cases h
  · rintro ⟨⟨h1, h2⟩, rfl⟩
    by_cases hn : n < 0
    · obtain ⟨u, rfl⟩ : ∃ u : Nat, n = -(u : Int) := ⟨n.natAbs, by omega⟩
      rw [Lib.itoa_neg u (by omega)]
      simp only [List.head?_cons, if_true, List.drop_succ_cons, List.drop_zero]
      have hl := dec_len 18 u (by have : (10 : Nat) ^ (18 + 1) = 10000000000000000000 := rfl; omega)
      rw [if_neg (by
        simp only [not_or]
        exact ⟨dec_ne u, by omega, fun e => dec_head (n := u) (by omega) e.1⟩), if_neg (by rw [dec_okD]; simp), dec_val, if_pos (by omega)]
    · obtain ⟨u, rfl⟩ : ∃ u : Nat, n = (u : Int) := ⟨n.toNat, by omega⟩
      rw [Lib.itoa_nonneg]
      have hh : ¬ (Lib.decDigits u).head? = some 45 := fun e => by
        have hm : (45 : UInt8) ∈ Lib.decDigits u := by
          cases hd : Lib.decDigits u with
          | nil => exact absurd hd (dec_ne u)
          | cons a r => rw [hd] at e; simp at e; simp [e]
        have := dec_digs u 45 hm
        have : (45 : UInt8).toNat = 45 := rfl
        omega
      have hl := dec_len 18 u (by have : (10 : Nat) ^ (18 + 1) = 10000000000000000000 := rfl; omega)
      simp only [hh, if_false]
      rw [if_neg (by
        simp only [not_or]
        refine ⟨dec_ne u, by omega, fun e => ?_⟩
        by_cases h0 : u = 0
        · subst h0; exact e.2 (by rw [Lib.decDigits_one (by omega)]; rfl)
        · exact dec_head (by omega) e.1), if_neg (by rw [dec_okD]; simp), dec_val, if_pos (by omega)]
theorem numR_eq (s : List UInt8) : numR s = canon s := by
  cases h : canon s with
  | some n => exact numR_iff.2 (canon_iff.1 h)
  | none =>
    cases h2 : numR s with
    | none => rfl
    | some n => rw [canon_iff.2 (numR_iff.1 h2)] at h; cases h
def pieces (c : UInt8) : List UInt8 → List (List UInt8)
  | [] => [[]]
  | a :: r => if a = c then [] :: pieces c r else match pieces c r with | p :: ps => (a :: p) :: ps | [] => [[a]]
theorem pieces_ne (c : UInt8) : ∀ s, pieces c s ≠ []
  | [] => by simp [pieces]
  | a :: r => by
    unfold pieces
    split
    · simp
    · split <;> simp
theorem pieces_cons (c : UInt8) (s : List UInt8) : ∃ p ps, pieces c s = p :: ps := by
  cases h : pieces c s with
  | nil => exact absurd h (pieces_ne c s)
  | cons p ps => exact ⟨p, ps, rfl⟩
theorem pieces_no {c : UInt8} : ∀ {s : List UInt8}, c ∉ s → pieces c s = [s]
  | [], _ => rfl
  | a :: r, h => by
    have h1 : ¬ a = c := fun e => h (by simp [e])
    rw [pieces, if_neg h1, pieces_no (fun e => h (by simp [e]))]
theorem pieces_at {c : UInt8} : ∀ {x y : List UInt8}, c ∉ x → pieces c (x ++ c :: y) = x :: pieces c y
  | [], y, _ => by simp [pieces]
  | a :: x, y, h => by
    have h1 : ¬ a = c := fun e => h (by simp [e])
    rw [List.cons_append, pieces, if_neg h1, pieces_at (fun e => h (by simp [e]))]
theorem cut_ex (c : UInt8) : ∀ s : List UInt8, c ∉ s ∨ ∃ x y, s = x ++ c :: y ∧ c ∉ x
  | [] => .inl (by simp)
  | a :: r => by
    by_cases h : a = c
    · exact .inr ⟨[], r, by simp [h], by simp⟩
    · rcases cut_ex c r with h2 | ⟨x, y, rfl, hx⟩
      · exact .inl (by simp only [List.mem_cons, not_or]; exact ⟨fun e => h e.symm, h2⟩)
      · exact .inr ⟨a :: x, y, rfl, by simp only [List.mem_cons, not_or]; exact ⟨fun e => h e.symm, hx⟩⟩
theorem cut_no {c : UInt8} {s : List UInt8} (h : c ∉ s) : Lib.cut s [c] = (s, [], false) := by
  unfold Lib.cut; rw [index_no c s h]; rfl
theorem split_pieces (c : UInt8) : ∀ (k : Nat) (s : List UInt8), s.length = k → Lib.splitK [c] 0 (Lib.count s [c]) s = pieces c s := by
  intro k
  induction k using Nat.strongRecOn with
  | ind k ih =>
    intro s hk
    rcases cut_ex c s with h | ⟨x, y, rfl, hx⟩
    · rw [count_no c s h, splitK_no c s 0 h, pieces_no h]
    · rw [count_at c x y hx, Nat.add_comm, splitK_hit c x y _ hx, pieces_at hx, ih y.length (by simp at hk; omega) y rfl]
theorem pieces_join (c : UInt8) : ∀ (k : Nat) (s : List UInt8), s.length = k → Lib.join (pieces c s) [c] = s := by
  intro k
  induction k using Nat.strongRecOn with
  | ind k ih =>
    intro s hk
    rcases cut_ex c s with h | ⟨x, y, rfl, hx⟩
    · rw [pieces_no h]; simp [Lib.join]
    · rw [pieces_at hx]
      have h2 := ih y.length (by simp at hk; omega) y rfl
      obtain ⟨p, ps, hp⟩ := pieces_cons c y
      rw [hp] at h2 ⊢
      rw [← h2]; simp [Lib.join]
theorem pieces_len (c : UInt8) : ∀ (k : Nat) (s : List UInt8), s.length = k → Lib.count s [c] + 1 = (pieces c s).length := by
  intro k
  induction k using Nat.strongRecOn with
  | ind k ih =>
    intro s hk
    rcases cut_ex c s with h | ⟨x, y, rfl, hx⟩
    · rw [count_no c s h, pieces_no h]; rfl
    · rw [count_at c x y hx, pieces_at hx, List.length_cons, ← ih y.length (by simp at hk; omega) y rfl]; omega
theorem pieces_mem (c : UInt8) : ∀ (k : Nat) (s : List UInt8), s.length = k → ∀ p ∈ pieces c s, p.length ≤ s.length := by
  intro k
  induction k using Nat.strongRecOn with
  | ind k ih =>
    intro s hk p hp
    rcases cut_ex c s with h | ⟨x, y, rfl, hx⟩
    · rw [pieces_no h] at hp; simp at hp; rw [hp]; exact Nat.le_refl _
    · rw [pieces_at hx] at hp
      simp only [List.length_append, List.length_cons] at hk ⊢
      rcases List.mem_cons.1 hp with rfl | hp
      · omega
      · have := ih y.length (by omega) y rfl p hp; omega
def byteO (x : List UInt8) : Option Nat := match canon x with | some n => if 0 ≤ n ∧ n ≤ 255 then some n.toNat else none | none => none
theorem byteO_some {x : List UInt8} {n : Nat} (h : byteO x = some n) : n ≤ 255 ∧ Lib.decDigits n = x := by
  unfold byteO at h
  split at h
  · rename_i m hm
    split at h
    · injection h with h
      have := (canon_iff.1 hm).2
      subst h
      obtain ⟨u, rfl⟩ : ∃ u : Nat, m = (u : Int) := ⟨m.toNat, by omega⟩
      rw [Lib.itoa_nonneg] at this
      exact ⟨by omega, by simpa using this⟩
    · cases h
  · cases h
def accO : List (List UInt8) → Nat → Option Nat
  | [], n => some n
  | x :: r, n => match byteO x with | some b => accO r (n * 256 + b) | none => none
theorem accO_snoc : ∀ (xs : List (List UInt8)) (y : List UInt8) (n : Nat), accO (xs ++ [y]) n = match accO xs n, byteO y with | some m, some b => some (m * 256 + b) | _, _ => none
  | [], y, n => by
    simp only [List.nil_append, accO]
    cases byteO y <;> rfl
  | x :: xs, y, n => by
    simp only [List.cons_append, accO]
    cases byteO x with
    | none => rfl
    | some b => exact accO_snoc xs y _
theorem accO_lt : ∀ {xs : List (List UInt8)} {n m : Nat}, accO xs n = some m → m < (n + 1) * 256 ^ xs.length
  | [], n, m, h => by rw [accO] at h; injection h with h; subst h; simp
  | x :: xs, n, m, h => by
    rw [accO] at h
    split at h
    · rename_i b hb
      have h1 := accO_lt h
      have h2 := (byteO_some hb).1
      have h3 : (n * 256 + b + 1) * 256 ^ xs.length ≤ ((n + 1) * 256) * 256 ^ xs.length := Nat.mul_le_mul_right _ (by omega)
      rw [List.length_cons, Nat.pow_succ, Nat.mul_comm (256 ^ xs.length) 256, ← Nat.mul_assoc]
      omega
    · cases h
theorem accO_app : ∀ (xs ys : List (List UInt8)) (n : Nat), accO xs n = none → accO (xs ++ ys) n = none
  | [], ys, n, h => by rw [accO] at h; cases h
  | x :: xs, ys, n, h => by
    simp only [List.cons_append, accO] at h ⊢
    cases hb : byteO x with
    | none => rfl
    | some b => rw [hb] at h; exact accO_app xs ys _ h
theorem accO_take {xs : List (List UInt8)} {k : Nat} {y : List UInt8} (hk : xs[k]? = some y) : accO (xs.take (k + 1)) 0 = match accO (xs.take k) 0, byteO y with | some m, some b => some (m * 256 + b) | _, _ => none := by
  rw [List.take_add_one, hk]; exact accO_snoc _ _ _
theorem accO_none {xs : List (List UInt8)} {k : Nat} (h : accO (xs.take k) 0 = none) : accO xs 0 = none := by
  rw [← List.take_append_drop k xs]; exact accO_app _ _ _ h
def addrO (s : List UInt8) : Option UInt32 := if (pieces 46 s).length = 4 then (accO (pieces 46 s) 0).map UInt32.ofNat else none
theorem accO_cons {x : List UInt8} {r : List (List UInt8)} {n m : Nat} (h : accO (x :: r) n = some m) : ∃ b, byteO x = some b ∧ accO r (n * 256 + b) = some m := by
  rw [accO] at h
  split at h
  · exact ⟨_, ‹_›, h⟩
  · cases h
theorem addrO_text {s : List UInt8} {a : UInt32} (h : addrO s = some a) : addrF a = s := by
  unfold addrO at h
  split at h
  · rename_i h4
    rw [Option.map_eq_some_iff] at h
    obtain ⟨n, hn, rfl⟩ := h
    have hj := pieces_join 46 _ s rfl
    generalize pieces 46 s = l at *
    obtain ⟨x3, x2, x1, x0, rfl⟩ : ∃ x3 x2 x1 x0, l = [x3, x2, x1, x0] := by
      match l, h4 with
      | [x3, x2, x1, x0], _ => exact ⟨_, _, _, _, rfl⟩
    obtain ⟨b3, e3, hn⟩ := accO_cons hn
    obtain ⟨b2, e2, hn⟩ := accO_cons hn
    obtain ⟨b1, e1, hn⟩ := accO_cons hn
    obtain ⟨b0, e0, hn⟩ := accO_cons hn
    rw [accO] at hn
    injection hn with hn
    have f3 := byteO_some e3
    have f2 := byteO_some e2
    have f1 := byteO_some e1
    have f0 := byteO_some e0
    rw [← hj, addrF, addrL]
    have hv : (UInt32.ofNat n).toNat = n := by rw [UInt32.toNat_ofNat', Nat.mod_eq_of_lt (by omega)]
    have p0 : (2 : Nat) ^ (8 * 0) = 1 := rfl
    have p1 : (2 : Nat) ^ (8 * 1) = 256 := rfl
    have p2 : (2 : Nat) ^ (8 * 2) = 65536 := rfl
    have p3 : (2 : Nat) ^ (8 * 3) = 16777216 := rfl
    have q3 : byteN (UInt32.ofNat n) 3 = b3 := by unfold byteN; rw [hv, p3]; omega
    have q2 : byteN (UInt32.ofNat n) 2 = b2 := by unfold byteN; rw [hv, p2]; omega
    have q1 : byteN (UInt32.ofNat n) 1 = b1 := by unfold byteN; rw [hv, p1]; omega
    have q0 : byteN (UInt32.ofNat n) 0 = b0 := by unfold byteN; rw [hv, p0]; omega
    rw [q3, q2, q1, q0, f3.2, f2.2, f1.2, f0.2]
  · cases h
def oneB (x : List UInt8) : Option BackD :=
  if (Lib.cut x [64]).2.2 = true ∧ (Lib.cut (Lib.cut x [64]).2.1 [42]).2.2 = true then
    match canon (Lib.cut x [64]).1, addrO (Lib.cut (Lib.cut x [64]).2.1 [42]).1, canon (Lib.cut (Lib.cut x [64]).2.1 [42]).2.1 with
    | some n, some a, some k => some ⟨n, a, k⟩
    | _, _, _ => none
  else none
theorem cut_back {c : UInt8} {s : List UInt8} (h : (Lib.cut s [c]).2.2 = true) : s = (Lib.cut s [c]).1 ++ c :: (Lib.cut s [c]).2.1 := by
  rcases cut_ex c s with h2 | ⟨x, y, rfl, hx⟩
  · rw [cut_no h2] at h; cases h
  · rw [cut_at c x y hx]
theorem oneB_text {x : List UInt8} {b : BackD} (h : oneB x = some b) : backT b = x ∧ numB b := by
  unfold oneB at h
  split at h
  · rename_i h1
    split at h
    · rename_i n a k e1 e2 e3
      injection h with h
      subst h
      have c1 := canon_iff.1 e1
      have c3 := canon_iff.1 e3
      have c2 := addrO_text e2
      refine ⟨?_, c1.1, c3.1⟩
      have d1 := cut_back h1.1
      have d2 := cut_back h1.2
      unfold backT
      dsimp only
      rw [c1.2, c2, c3.2, ← d2, ← d1]
    · cases h
  · cases h
def allO : List (List UInt8) → Option (List BackD)
  | [] => some []
  | x :: r => match oneB x, allO r with | some b, some l => some (b :: l) | _, _ => none
theorem allO_len : ∀ {xs : List (List UInt8)} {l : List BackD}, allO xs = some l → l.length = xs.length
  | [], l, h => by injection h with h; subst h; rfl
  | x :: r, l, h => by
    rw [allO] at h
    split at h
    · rename_i b l' e1 e2
      injection h with h
      subst h
      simp [allO_len e2]
    · cases h
theorem allO_text : ∀ {xs : List (List UInt8)} {l : List BackD}, allO xs = some l → l.map backT = xs ∧ ∀ b ∈ l, numB b
  | [], l, h => by injection h with h; subst h; exact ⟨rfl, by simp⟩
  | x :: r, l, h => by
    rw [allO] at h
    split at h
    · rename_i b l' e1 e2
      injection h with h
      subst h
      have h1 := oneB_text e1
      have h2 := allO_text e2
      exact ⟨by rw [List.map_cons, h1.1, h2.1], by simp only [List.mem_cons]; rintro y (rfl | hy); exact h1.2; exact h2.2 y hy⟩
    · cases h
def parseB (s : List UInt8) : Option (List BackD) :=
  if s = [45] then some [] else if 16 < (pieces 44 s).length then none else
    match allO (pieces 44 s) with | some l => if mayBs l = true then some l else none | none => none
theorem allO_textB {s : List UInt8} {l : List BackD} (h : allO (pieces 44 s) = some l) : textB l = s ∧ ∀ b ∈ l, numB b := by
  have h1 := allO_text h
  refine ⟨?_, h1.2⟩
  have hl := allO_len h
  have hne : l ≠ [] := fun e => by
    rw [e] at hl
    exact pieces_ne 44 s (List.length_eq_zero_iff.1 hl.symm)
  unfold textB
  rw [if_neg hne, h1.1, pieces_join 44 _ s rfl]
theorem allO_app {xs ys : List (List UInt8)} : allO (xs ++ ys) = match allO xs, allO ys with | some l, some m => some (l ++ m) | _, _ => none := by
  induction xs with
  | nil => simp only [List.nil_append, allO]; cases allO ys <;> simp
  | cons x r ih =>
    simp only [List.cons_append, allO, ih]
    cases oneB x <;> cases allO r <;> cases allO ys <;> simp
theorem allO_take {xs : List (List UInt8)} {k : Nat} {x : List UInt8} (hk : xs[k]? = some x) : allO (xs.take (k + 1)) = match allO (xs.take k), oneB x with | some l, some b => some (l ++ [b]) | _, _ => none := by
  rw [List.take_add_one, hk, allO_app]
  simp only [Option.toList, allO]
  cases allO (xs.take k) <;> cases oneB x <;> simp
theorem allO_none {xs : List (List UInt8)} {k : Nat} (h : allO (xs.take k) = none) : allO xs = none := by
  rw [← List.take_append_drop k xs, allO_app, h]
end
end Go.Proofs.YtgndijdhmkphaaaGreatDoor
