
/-
  The contracts of the reference's SegNumber and SegName.
-/
import Derived.Test.YtpbebadbnkimeaaDoorManF
import Derived.Test.YtpbebadbnkimeaaDoorShelf
import Derived.Lib.LaidTab
namespace Go.Proofs.YtpbebadbnkimeaaDoor
open Go.RowKit Go.ChangeShapes Go.WideShapes Go.Deep
set_option linter.unusedVariables false
set_option maxRecDepth 100000

/-- a listed table stands as it stood -/
theorem tab_kept {w w' : World} {S : List Nat} {name : String} {k : IntKind} {zs : List Int} {g : Nat} (h : Lib.TabIs Tryd.prog w name k zs) (hg : Tryd.prog.globalNamed name = some g) (hk : Kept S w w') (hs : g ∉ S) : Lib.TabIs Tryd.prog w' name k zs := by
  unfold Lib.TabIs World.var? at h ⊢
  rw [hg] at h ⊢
  simp only [Option.bind_some] at h ⊢
  have hlt : g < w.heap.size := by
    cases hh : w.heap[g]? with
    | none => rw [hh] at h; cases h
    | some o => exact (Array.getElem?_eq_some_iff.1 hh).1
  rw [hk.block g hlt hs]
  exact h
theorem kept_grow (w : World) (k : Nat) (os : Array Obj) : Kept [] w (Go.Sort.grow (w.drewN k) os) :=
  ⟨rfl, rfl, rfl, by simp [Go.Sort.grow], fun i hi _ => by simp only [Go.Sort.grow]; exact Array.getElem?_append_left hi⟩
abbrev PowTab (w : World) : Prop := Lib.TabIs Tryd.prog w "internal/strconv.uint64pow10" .u64 Lib.pow10Tab
theorem Itoa_any (w : World) (n : Int) (h0 : -9223372036854775808 ≤ n) (h1 : n ≤ 9223372036854775807) (ht : PowTab w) :
    Calls Tryd.prog 30 #[.int .i64 n] w fun e w' => e = .returned (.string (strOf (Lib.itoa n))) ∧ Kept [] w w' :=
  (Tryd.strconv_Itoa n h0 h1 w ht).mono fun e w' ⟨he, k, os, hw⟩ => ⟨he, by rw [hw]; exact kept_grow w k os⟩
def padR : Nat → Nat → List UInt8
  | _, 0 => []
  | n, k + 1 => padR (n / 10) k ++ [UInt8.ofNat (48 + n % 10)]
theorem padR_len : ∀ (k n : Nat), (padR n k).length = k
  | 0, n => rfl
  | k + 1, n => by rw [padR, List.length_append, padR_len k]; rfl
theorem padR_zero : ∀ k, padR 0 k = List.replicate k 48
  | 0 => rfl
  | k + 1 => by rw [padR, Nat.zero_div, padR_zero k, List.replicate_succ']; rfl
theorem dec_step {n : Nat} (h : ¬ n < 10) : Lib.decDigits n = Lib.decDigits (n / 10) ++ [UInt8.ofNat (48 + n % 10)] := by
  conv => lhs; rw [Lib.decDigits]
  rw [dif_neg h]
theorem dec_pad : ∀ (k n : Nat), n < 10 ^ (k + 1) → (Lib.decDigits n).length ≤ k + 1 ∧ List.replicate (k + 1 - (Lib.decDigits n).length) 48 ++ Lib.decDigits n = padR n (k + 1)
  | k, n, h => by
    by_cases h1 : n < 10
    · rw [Lib.decDigits_one h1]
      refine ⟨by simp, ?_⟩
      rw [padR, Nat.div_eq_of_lt h1, padR_zero, Nat.mod_eq_of_lt h1]
      simp
    · match k, h with
      | 0, h => simp at h; omega
      | k + 1, h =>
        have hn : n / 10 < 10 ^ (k + 1) := by rw [Nat.pow_succ] at h; omega
        obtain ⟨h2, h3⟩ := dec_pad k (n / 10) hn
        rw [dec_step h1, padR]
        refine ⟨by simp; omega, ?_⟩
        rw [← h3, List.length_append, List.length_cons, List.length_nil, ← List.append_assoc]
        congr 3
        omega
theorem nameL_pad (n : Nat) : nameL n = 115 :: padR n 6 := by
  simp only [nameL, padR, digB, Nat.div_div_eq_div_mul]
  simp
theorem strOf_size (l : List UInt8) : (strOf l).size = l.length := by simp [strOf, ByteArray.size]
theorem strOf_cons (b : UInt8) (l : List UInt8) : (⟨#[b]⟩ : ByteArray) ++ strOf l = strOf (b :: l) := by
  apply ByteArray.ext
  simp [strOf]
end Go.Proofs.YtpbebadbnkimeaaDoor
