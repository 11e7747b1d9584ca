
/-
  Plain laws of tuples: they are in an order; two have one text just if they are the same.
-/
import Derived.Test.YtpbebadbnkimeaaDoorTupC
namespace Go.Proofs.YtpbebadbnkimeaaDoor
open Go.RowKit
set_option linter.unusedVariables false
set_option maxRecDepth 100000

def keyT (t : TupD) : List Int := [(t.src.toNat : Nat), (t.dst.toNat : Nat), t.proto, t.sport, t.dport]
def cmpL (x y : List Int) : Int := orI (List.zipWith cmpI x y)
theorem less_key (a b : TupD) : lessT a b = decide (cmpL (keyT a) (keyT b) < 0) := rfl
theorem keyT_inj {a b : TupD} (h : keyT a = keyT b) : a = b := by
  simp only [keyT, List.cons.injEq, and_true] at h
  obtain ⟨h1, h2, h3, h4, h5⟩ := h
  have e1 := UInt32.toNat_inj.1 (Int.ofNat_inj.1 h1)
  have e2 := UInt32.toNat_inj.1 (Int.ofNat_inj.1 h2)
  cases a; cases b
  simp only [TupD.mk.injEq]
  exact ⟨e1, e2, h3, h4, h5⟩
theorem cmpI_range (a b : Int) : cmpI a b = -1 ∨ cmpI a b = 0 ∨ cmpI a b = 1 := by unfold cmpI; split <;> (try split) <;> simp
theorem cmpI_neg (a b : Int) : cmpI b a = -cmpI a b := by unfold cmpI; split <;> split <;> omega
theorem cmpI_zero {a b : Int} : cmpI a b = 0 ↔ a = b := by unfold cmpI; split <;> (try split) <;> omega
theorem cmpI_lt {a b : Int} : cmpI a b < 0 ↔ a < b := by unfold cmpI; split <;> (try split) <;> omega
theorem cmpL_cons (a b : Int) (x y : List Int) : cmpL (a :: x) (b :: y) = if cmpI a b ≠ 0 then cmpI a b else cmpL x y := rfl
theorem cmpL_refl : ∀ x : List Int, cmpL x x = 0
  | [] => rfl
  | a :: x => by rw [cmpL_cons, if_neg (by simp [cmpI_zero]), cmpL_refl x]
theorem cmpL_neg : ∀ x y : List Int, cmpL y x = -cmpL x y
  | [], [] => rfl
  | [], _ :: _ => rfl
  | _ :: _, [] => rfl
  | a :: x, b :: y => by
    rw [cmpL_cons, cmpL_cons, cmpI_neg a b]
    by_cases h : cmpI a b = 0
    · rw [if_neg (by omega), if_neg (by omega), cmpL_neg x y]
    · rw [if_pos (by omega), if_pos h]
theorem cmpL_zero : ∀ {x y : List Int}, x.length = y.length → cmpL x y = 0 → x = y
  | [], [], _, _ => rfl
  | a :: x, b :: y, hl, h => by
    rw [cmpL_cons] at h
    by_cases h0 : cmpI a b = 0
    · rw [if_neg (by omega)] at h
      rw [cmpI_zero.1 h0, cmpL_zero (by simpa using hl) h]
    · rw [if_pos h0] at h; exact absurd h h0
theorem cmpL_trans : ∀ {x y z : List Int}, x.length = y.length → y.length = z.length → cmpL x y < 0 → cmpL y z < 0 → cmpL x z < 0
  | [], [], [], _, _, h, _ => h
  | a :: x, b :: y, c :: z, h1, h2, h3, h4 => by
    rw [cmpL_cons] at h3 h4 ⊢
    by_cases e1 : cmpI a b = 0
    · have := cmpI_zero.1 e1
      subst this
      rw [if_neg (by omega)] at h3
      by_cases e2 : cmpI a c = 0
      · rw [if_neg (by omega)] at h4 ⊢
        exact cmpL_trans (by simpa using h1) (by simpa using h2) h3 h4
      · rw [if_pos e2] at h4 ⊢; exact h4
    · rw [if_pos e1] at h3
      by_cases e2 : cmpI b c = 0
      · have := cmpI_zero.1 e2
        subst this
        rw [if_pos e1]; exact h3
      · rw [if_pos e2] at h4
        have : cmpI a c < 0 := cmpI_lt.2 (by have := cmpI_lt.1 h3; have := cmpI_lt.1 h4; omega)
        rw [if_pos (by omega)]; exact this
theorem less_irr (a : TupD) : lessT a a = false := by rw [less_key, cmpL_refl]; rfl
theorem less_one {a b : TupD} (h : a ≠ b) : (lessT a b == lessT b a) = false := by
  rw [less_key, less_key, cmpL_neg (keyT a) (keyT b)]
  have h0 : cmpL (keyT a) (keyT b) ≠ 0 := fun e => h (keyT_inj (cmpL_zero rfl e))
  rw [beq_eq_false_iff_ne]
  intro e
  rw [decide_eq_decide] at e
  omega
theorem less_trans {a b c : TupD} (h1 : lessT a b = true) (h2 : lessT b c = true) : lessT a c = true := by
  rw [less_key, decide_eq_true_eq] at h1 h2 ⊢
  exact cmpL_trans (x := keyT a) (y := keyT b) (z := keyT c) rfl rfl h1 h2
/-- two texts up to one separator that neither holds -/
theorem sep_inj {s : UInt8} : ∀ {u v x y : List UInt8}, s ∉ u → s ∉ v → u ++ s :: x = v ++ s :: y → u = v ∧ x = y
  | [], [], x, y, _, _, h => by simpa using h
  | [], c :: v, x, y, _, hv, h => by simp at h; exact absurd h.1 (fun e => hv (by simp [e]))
  | c :: u, [], x, y, hu, _, h => by simp at h; exact absurd h.1.symm (fun e => hu (by simp [e]))
  | c :: u, d :: v, x, y, hu, hv, h => by
    simp only [List.cons_append, List.cons.injEq] at h
    obtain ⟨h1, h2⟩ := sep_inj (fun hm => hu (by simp [hm])) (fun hm => hv (by simp [hm])) h.2
    exact ⟨by rw [h.1, h1], h2⟩
theorem dec_digs : ∀ (n : Nat), ∀ c ∈ Lib.decDigits n, 48 ≤ c.toNat ∧ c.toNat ≤ 57 := by
  intro n
  induction n using Nat.strongRecOn with
  | ind n ih =>
    intro c hc
    by_cases h : n < 10
    · rw [Lib.decDigits_one h] at hc
      have : c = UInt8.ofNat (48 + n) := by simpa using hc
      rw [this, UInt8.toNat_ofNat', Nat.mod_eq_of_lt (by omega)]
      omega
    · rw [dec_step h, List.mem_append] at hc
      rcases hc with hc | hc
      · exact ih (n / 10) (by omega) c hc
      · have : c = UInt8.ofNat (48 + n % 10) := by simpa using hc
        rw [this, UInt8.toNat_ofNat', Nat.mod_eq_of_lt (by omega)]
        omega
theorem dec_val : ∀ (n : Nat), numV (Lib.decDigits n) = n := by
  intro n
  induction n using Nat.strongRecOn with
  | ind n ih =>
    by_cases h : n < 10
    · rw [Lib.decDigits_one h]
      simp only [numV, List.foldl_cons, List.foldl_nil, UInt8.toNat_ofNat']
      omega
    · rw [dec_step h, numV_snoc, ih (n / 10) (by omega), UInt8.toNat_ofNat']
      omega
theorem dec_inj {n m : Nat} (h : Lib.decDigits n = Lib.decDigits m) : n = m := by rw [← dec_val n, h, dec_val m]
theorem dec_no {n : Nat} {s : UInt8} (h : ¬ (48 ≤ s.toNat ∧ s.toNat ≤ 57)) : s ∉ Lib.decDigits n := fun hm => h (dec_digs n s hm)
theorem addr_no (a : UInt32) {s : UInt8} (h : ¬ (48 ≤ s.toNat ∧ s.toNat ≤ 57)) (h2 : s ≠ 46) : s ∉ addrF a := by
  rw [addrF_eq]
  simp only [List.mem_append, List.mem_cons]
  have := fun j => @dec_no (byteN a j) s h
  simp [this, h2]
theorem byte_inj {a b : UInt32} (h3 : byteN a 3 = byteN b 3) (h2 : byteN a 2 = byteN b 2) (h1 : byteN a 1 = byteN b 1) (h0 : byteN a 0 = byteN b 0) : a = b := by
  apply UInt32.toNat_inj.1
  have ha := a.toNat_lt
  have hb := b.toNat_lt
  unfold byteN at h0 h1 h2 h3
  simp only [Nat.reduceMul, Nat.reducePow] at h0 h1 h2 h3
  omega
theorem addr_inj {a b : UInt32} (h : addrF a = addrF b) : a = b := by
  rw [addrF_eq, addrF_eq] at h
  have n46 : ∀ n, (46 : UInt8) ∉ Lib.decDigits n := fun n => dec_no (by decide)
  obtain ⟨e3, h⟩ := sep_inj (n46 _) (n46 _) h
  obtain ⟨e2, h⟩ := sep_inj (n46 _) (n46 _) h
  obtain ⟨e1, e0⟩ := sep_inj (n46 _) (n46 _) h
  exact byte_inj (dec_inj e3) (dec_inj e2) (dec_inj e1) (dec_inj e0)
theorem may_parts {t : TupD} (h : mayT t = true) : (t.proto = 6 ∨ t.proto = 17) ∧ (0 ≤ t.sport ∧ t.sport ≤ 65535) ∧ (0 ≤ t.dport ∧ t.dport ≤ 65535) := by
  simp [mayT] at h
  omega
theorem text_inj {a b : TupD} (ha : mayT a = true) (hb : mayT b = true) (h : textF a = textF b) : a = b := by
  obtain ⟨a1, ⟨a2, a3⟩, ⟨a4, a5⟩⟩ := may_parts ha
  obtain ⟨b1, ⟨b2, b3⟩, ⟨b4, b5⟩⟩ := may_parts hb
  have hp : ∀ n : Int, (n = 6 ∨ n = 17) → (32 : UInt8) ∉ protoF n := by
    rintro n (rfl | rfl) <;> decide
  have hit : ∀ n : Int, 0 ≤ n → Lib.itoa n = Lib.decDigits n.toNat := fun n h0 => by
    have := Lib.itoa_nonneg n.toNat
    rwa [Int.toNat_of_nonneg h0] at this
  unfold textF at h
  rw [hit _ a2, hit _ a4, hit _ b2, hit _ b4] at h
  obtain ⟨e1, h⟩ := sep_inj (hp _ a1) (hp _ b1) h
  obtain ⟨e2, h⟩ := sep_inj (addr_no _ (by decide) (by decide)) (addr_no _ (by decide) (by decide)) h
  obtain ⟨e3, h⟩ := sep_inj (dec_no (by decide)) (dec_no (by decide)) h
  obtain ⟨e4, e5⟩ := sep_inj (addr_no _ (by decide) (by decide)) (addr_no _ (by decide) (by decide)) h
  have p : a.proto = b.proto := by
    rcases a1 with p | p <;> rcases b1 with q | q <;> rw [p, q] at e1 <;> first | (rw [p, q]; done) | (exact absurd e1 (by decide))
  cases a; cases b
  simp only [TupD.mk.injEq]
  refine ⟨addr_inj e2, addr_inj e4, p, ?_, ?_⟩
  · have := dec_inj e3; dsimp only at *; omega
  · have := dec_inj e5; dsimp only at *; omega
end Go.Proofs.YtpbebadbnkimeaaDoor
