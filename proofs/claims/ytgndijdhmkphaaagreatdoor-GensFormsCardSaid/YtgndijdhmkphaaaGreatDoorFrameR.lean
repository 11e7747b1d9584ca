/-
  Contracts of the reference's Put and u32.
-/
import Derived.Lib.LaidTab
import Derived.Test.YtgndijdhmkphaaaGreatDoorManF
import Derived.Test.YtgndijdhmkphaaaGreatDoorShelf
import Derived.ArgAppend
import Derived.Test.YtgndijdhmkphaaaGreatDoorRecM
import Derived.Test.YtgndijdhmkphaaaGreatDoorFrameM
namespace Go.Proofs.YtgndijdhmkphaaaGreatDoor
set_option linter.unusedVariables false
section
open Go.RowKit Go.ChangeShapes Go.WideShapes Go.Deep
set_option maxRecDepth 100000
theorem tab_kept {w w' : World} {S : List Nat} {name : String} {k : IntKind} {zs : List Int} {g : Nat} (h : Lib.TabIs Tryz.prog w name k zs) (hg : Tryz.prog.globalNamed name = some g) (hk : Kept S w w') (hs : g ∉ S) : Lib.TabIs Tryz.prog w' name k zs := by
  unfold Lib.TabIs World.var? at h ⊢
  rw [hg] at h ⊢
  simp only [Option.bind_some] at h ⊢
  have hlt : g < w.heap.size := by
    cases hh : w.heap[g]? with
    | none => rw [hh] at h; cases h
    | some o => exact (Array.getElem?_eq_some_iff.1 hh).1
  rw [hk.block g hlt hs]
  exact h
theorem kept_grow (w : World) (k : Nat) (os : Array Obj) : Kept [] w (Go.Sort.grow (w.drewN k) os) :=
  ⟨rfl, rfl, rfl, by simp [Go.Sort.grow], fun i hi _ => by simp only [Go.Sort.grow]; exact Array.getElem?_append_left hi⟩
abbrev PowTab (w : World) : Prop := Lib.TabIs Tryz.prog w "internal/strconv.uint64pow10" .u64 Lib.pow10Tab
theorem Itoa_any (w : World) (n : Int) (h0 : -9223372036854775808 ≤ n) (h1 : n ≤ 9223372036854775807) (ht : PowTab w) :
    Calls Tryz.prog 43 #[.int .i64 n] w fun e w' => e = .returned (.string (strOf (Lib.itoa n))) ∧ Kept [] w w' :=
  (Tryz.strconv_Itoa n h0 h1 w ht).mono fun e w' ⟨he, k, os, hw⟩ => ⟨he, by rw [hw]; exact kept_grow w k os⟩
def padR : Nat → Nat → List UInt8
  | _, 0 => []
  | n, k + 1 => padR (n / 10) k ++ [UInt8.ofNat (48 + n % 10)]
theorem padR_zero : ∀ k, padR 0 k = List.replicate k 48
  | 0 => rfl
  | k + 1 => by rw [padR, Nat.zero_div, padR_zero k, List.replicate_succ']; rfl
theorem dec_step {n : Nat} (h : ¬ n < 10) : Lib.decDigits n = Lib.decDigits (n / 10) ++ [UInt8.ofNat (48 + n % 10)] := by
  conv => lhs; rw [Lib.decDigits]
  rw [dif_neg h]
theorem dec_pad : ∀ (k n : Nat), n < 10 ^ (k + 1) → (Lib.decDigits n).length ≤ k + 1 ∧ List.replicate (k + 1 - (Lib.decDigits n).length) 48 ++ Lib.decDigits n = padR n (k + 1)
  | k, n, h => by
    by_cases h1 : n < 10
    · rw [Lib.decDigits_one h1]
      refine ⟨by simp, ?_⟩
      rw [padR, Nat.div_eq_of_lt h1, padR_zero, Nat.mod_eq_of_lt h1]
      simp
    · match k, h with
      | 0, h => simp at h; omega
      | k + 1, h =>
        have hn : n / 10 < 10 ^ (k + 1) := by rw [Nat.pow_succ] at h; omega
        obtain ⟨h2, h3⟩ := dec_pad k (n / 10) hn
        rw [dec_step h1, padR]
        refine ⟨by simp; omega, ?_⟩
        rw [← h3, List.length_append, List.length_cons, List.length_nil, ← List.append_assoc]
        congr 3
        omega
theorem strOf_size (l : List UInt8) : (strOf l).size = l.length := by simp [strOf, ByteArray.size]
end
section
open Go.RowKit
set_option maxRecDepth 100000
theorem New.go {W w w' : World} {e : TypeId} {s n : Nat} {v : Value} {xs : List Value} (h : New W e s v n xs w) (hk : Kept [] w w') : New W e s v n xs w' :=
  ⟨h.1.kept hk (by simp), h.2.1.trans hk (by simp), h.2.2⟩
theorem New.app {W w w' : World} {v v' : Value} {n n' : Nat} {bs cs : List UInt8} (h : New W 5 1 v n (u8s bs) w) (ho : Own w' 5 1 v' n' (u8s bs ++ u8s cs)) (hk : Kept (rowOf v) w w')
    (hr : ∀ k ∈ rowOf v', k ∈ rowOf v ∨ w.heap.size ≤ k) : New W 5 1 v' n' (u8s (bs ++ cs)) w' := by
  refine ⟨by rw [show u8s (bs ++ cs) = u8s bs ++ u8s cs by simp [u8s]]; exact ho, h.2.1.trans hk (fun i hi => .inr (h.2.2 i hi)), fun k hk' => ?_⟩
  rcases hr k hk' with h1 | h1
  · exact h.2.2 k h1
  · have := h.2.1.size; omega
theorem New.len {W w : World} {v : Value} {n : Nat} {bs : List UInt8} (h : New W 5 1 v n (u8s bs) w) : bs.length = n := by
  have := h.1.1
  simpa [u8s] using this
theorem New.wide {W W' w : World} {e : TypeId} {s n : Nat} {v : Value} {xs : List Value} (h : New W' e s v n xs w) (hk : Kept [] W W') : New W e s v n xs w :=
  ⟨h.1, hk.trans h.2.1 (by simp), fun k hk' => by have := h.2.2 k hk'; have := hk.size; omega⟩
theorem Rd.holds {w : World} {A : Option Addr} {xs : List Value} (h : Rd w A xs) : ∀ b, A = some b → ∀ j u, xs[j]? = some u → w.cell? (b.add j) = some u := by
  intro b hb j u hu
  obtain ⟨g, o, h1, h2⟩ := h (by rintro rfl; simp at hu)
  rw [hb] at h1
  injection h1 with h1
  subst h1
  rw [Addr.add_lit]
  exact h2 j u hu
end
end Go.Proofs.YtgndijdhmkphaaaGreatDoor
