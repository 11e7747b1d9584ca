
/-
  Contracts of octet.Reader's functions.
-/
import Derived.Test.YtdabbkkjmmbigaaOctB
namespace Go.Proofs.Ytdabbkkjmmbigaa
open Go.RowKit
set_option linter.unusedVariables false

/-- v is a slice of bytes that lies in blocks of G and reads bs -/
def RdB (w : World) (G : List Nat) (v : Value) (bs : List UInt8) : Prop :=
  ∃ A m c, v = .slice A m c ∧ bs.length = m ∧ m ≤ c ∧ c ≤ maxLen ∧ Rd w A (u8s bs) ∧ (∀ k ∈ addrOf A, bs ≠ [] → k ∈ G) ∧ (A = none → m = 0 ∧ c = 0)
theorem u8s_ne {bs : List UInt8} (h : u8s bs ≠ []) : bs ≠ [] := by rintro rfl; exact h rfl
theorem u8s_nil {bs : List UInt8} (h : u8s bs = []) : bs = [] := by simpa [u8s] using h
theorem RdB.kept {w w' : World} {G S : List Nat} {v : Value} {bs : List UInt8} (h : RdB w G v bs) (hk : Kept S w w') (hd : ∀ k ∈ G, k ∉ S) : RdB w' G v bs := by
  obtain ⟨A, m, c, h1, h2, h3, h4, h5, h6, h7⟩ := h
  exact ⟨A, m, c, h1, h2, h3, h4, h5.kept hk (fun hne k hk' => hd k (h6 k hk' (u8s_ne hne))), h6, h7⟩
theorem RdB.rd {w : World} {G : List Nat} {A : Option Addr} {m c : Nat} {bs : List UInt8} (h : RdB w G (.slice A m c) bs) : Rd w A (u8s bs) := by
  obtain ⟨A', m', c', e, h2, h3, h4, h5, h6, h7⟩ := h
  injection e with e1 e2 e3
  subst e1 e2 e3
  exact h5
theorem RdB.len {w : World} {G : List Nat} {A : Option Addr} {m c : Nat} {bs : List UInt8} (h : RdB w G (.slice A m c) bs) : bs.length = m ∧ m ≤ c ∧ c ≤ maxLen ∧ (A = none → m = 0 ∧ c = 0) := by
  obtain ⟨A', m', c', e, h2, h3, h4, h5, h6, h7⟩ := h
  injection e with e1 e2 e3
  subst e1 e2 e3
  exact ⟨h2, h3, h4, h7⟩
theorem RdB.of_own {w : World} {v : Value} {bs : List UInt8} {n : Nat} (h : Own w 5 1 v n (u8s bs)) : RdB w (rowOf v) v bs := by
  obtain ⟨A, c, rfl, h1, h2, h3, h4, h5⟩ := h.slice
  exact ⟨A, n, c, rfl, by have := h.1; simp [u8s] at this; omega, h1, h2, h3, fun k hk _ => h4 ▸ hk, h5⟩
theorem RdB.mono {w : World} {G G' : List Nat} {v : Value} {bs : List UInt8} (h : RdB w G v bs) (hg : ∀ k ∈ G, k ∈ G') : RdB w G' v bs := by
  obtain ⟨A, m, c, h1, h2, h3, h4, h5, h6, h7⟩ := h
  exact ⟨A, m, c, h1, h2, h3, h4, h5, fun k hk hne => hg k (h6 k hk hne), h7⟩

/-- the reader (a struct of type t) at block b has bs left, which lie in blocks of G; its error is e -/
structure RdrT (t : TypeId) (w : World) (b : Nat) (G : List Nat) (bs : List UInt8) (e : Int) : Prop where
  ex : ∃ v, Blk w b t #[v, .int .i64 e] ∧ RdB w G v bs
  ne : b ∉ G
theorem RdrT.kept {t : TypeId} {w w' : World} {b : Nat} {G S : List Nat} {bs : List UInt8} {e : Int} (h : RdrT t w b G bs e) (hk : Kept S w w') (hb : b ∉ S) (hd : ∀ k ∈ G, k ∉ S) : RdrT t w' b G bs e := by
  obtain ⟨v, h1, h2⟩ := h.ex
  exact ⟨⟨v, h1.kept hk hb, h2.kept hk hd⟩, h.ne⟩
theorem RdrT.drewN {t : TypeId} {w : World} {b : Nat} {G : List Nat} {bs : List UInt8} {e : Int} (h : RdrT t w b G bs e) (n : Nat) : RdrT t (w.drewN n) b G bs e := h.kept (S := []) ((Kept.refl _ _).drewN n) (by simp) (by simp)
theorem RdrT.drew {t : TypeId} {w : World} {b : Nat} {G : List Nat} {bs : List UInt8} {e : Int} (h : RdrT t w b G bs e) : RdrT t w.drew b G bs e := h.kept (S := []) (Kept.refl _ _).drew (by simp) (by simp)
/-- what taking n bytes does: what comes, what is left, the error -/
def tk (bs : List UInt8) (e n : Int) : List UInt8 × List UInt8 × Int :=
  if e ≠ 0 ∨ n < 0 then ([], bs, e) else if bs.length < n then ([], [], 2) else (bs.take n.toNat, bs.drop n.toNat, e)

theorem Rd.take {w : World} {A : Option Addr} {bs : List UInt8} (h : Rd w A (u8s bs)) (n : Nat) : Rd w A (u8s (bs.take n)) := by
  intro hne
  have : u8s bs ≠ [] := by
    intro h0; rw [u8s_nil h0] at hne; simp [u8s] at hne
  obtain ⟨g, o, rfl, hc⟩ := h this
  refine ⟨g, o, rfl, fun j u hu => hc j u ?_⟩
  simp only [u8s, List.map_take, List.getElem?_take] at hu
  split at hu
  · exact hu
  · cases hu
theorem Rd.drop {w : World} {A : Option Addr} {bs : List UInt8} (h : Rd w A (u8s bs)) (n : Nat) : Rd w (A.map (·.add n)) (u8s (bs.drop n)) := by
  intro hne
  have : u8s bs ≠ [] := by
    intro h0; rw [u8s_nil h0] at hne; simp [u8s] at hne
  obtain ⟨g, o, rfl, hc⟩ := h this
  refine ⟨g, o + n, by simp [Addr.add_lit], fun j u hu => ?_⟩
  rw [Nat.add_assoc]
  refine hc (n + j) u ?_
  simpa [u8s, List.getElem?_drop] using hu

theorem ne_take {bs : List UInt8} {k : Nat} (h : bs.take k ≠ []) : bs ≠ [] := by rintro rfl; simp at h
theorem ne_drop {bs : List UInt8} {k : Nat} (h : bs.drop k ≠ []) : bs ≠ [] := by rintro rfl; simp at h
end Go.Proofs.Ytdabbkkjmmbigaa
