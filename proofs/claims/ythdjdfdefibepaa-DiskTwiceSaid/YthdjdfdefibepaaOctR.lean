
/-
  Contracts of octet.Reader's functions.
-/
import Derived.Test.YthdjdfdefibepaaBase
import Derived.Test.YthdjdfdefibepaaRows
import Derived.Deep.RegionHeld3
import Derived.Deep.RegionLaw
import Derived.Deep.LoopGhost
import Derived.Outline
section
namespace Go.Proofs.Ythdjdfdefibepaa
open Go.RowKit
set_option linter.unusedVariables false

abbrev u8v (b : UInt8) : Value := .int .u8 (b.toNat : Int)
def u8s (bs : List UInt8) : List Value := bs.map u8v
theorem u8s_len (bs : List UInt8) : (u8s bs).length = bs.length := by simp [u8s]
theorem u8s_app (a b : List UInt8) : u8s (a ++ b) = u8s a ++ u8s b := by simp [u8s]
theorem u8s_one (bs : List UInt8) : ∀ u ∈ u8s bs, u.oneCell' = true := by
  intro u hu; obtain ⟨_, _, rfl⟩ := List.mem_map.1 hu; rfl
theorem info_u8 : (Try.prog.info? 5).map (fun i => (i.zero, i.size, i.bytes)) = some (some (.int .u8 0), 1, 1) := by kernel_rfl

theorem wrap_u8 (n : Nat) : IntKind.u8.wrap (n : Int) = ((UInt8.ofNat n).toNat : Int) := by
  rw [IntKind.wrap_u8]; simp
theorem shr_u8 (x width k : Nat) (h : k < width) : IntKind.u8.wrap ((x : Int) / 2 ^ (8 * ((width : Int) - 1 - k)).toNat) = ((UInt8.ofNat (x / 2 ^ (8 * (width - 1 - k)))).toNat : Int) := by
  rw [show (8 * ((width : Int) - 1 - k)).toNat = 8 * (width - 1 - k) by omega, ← wrap_u8]; congr 1
/-- the first k of the bytes of x as a number of so many bytes -/
def beK (x width k : Nat) : List UInt8 := (List.range k).map fun i => UInt8.ofNat (x / 2 ^ (8 * (width - 1 - i)))
theorem beK_succ (x width k : Nat) : beK x width (k + 1) = beK x width k ++ [UInt8.ofNat (x / 2 ^ (8 * (width - 1 - k)))] := by simp [beK, List.range_succ]
theorem beK_len (x width k : Nat) : (beK x width k).length = k := by simp [beK]
theorem elem_u8 : Elem Try.prog 28 5 1 1 := Elem.mk' Try.underlying28 info_u8 rfl (by omega)

end Go.Proofs.Ythdjdfdefibepaa
end

section
namespace Go.Proofs.Ythdjdfdefibepaa
open Go.RowKit
set_option linter.unusedVariables false

/-- a number as 64 bits -/
def nat64 (n : Int) : Nat := (n % 18446744073709551616).toNat
theorem nat64_cast (n : Int) : ((nat64 n : Nat) : Int) = n % 18446744073709551616 := by unfold nat64; omega
theorem wrap_u64 (n : Int) : IntKind.u64.wrap n = (nat64 n : Int) := by rw [IntKind.wrap_u64, nat64_cast]
theorem nat64_small (n : Nat) (h : n < 18446744073709551616) : nat64 n = n := by unfold nat64; omega

theorem eql_nil8 : ∀ (w : World) (a : Option Addr) (n c n' c' : Nat), (binOp .eql 28 (.slice a n c) (.slice none n' c')).run Try.prog w = .ok (.bool a.isNone) w :=
  fun w a n c n' c' => Lib.run_eql_slice_nil w _ _ a n c n' c' Try.underlying28

/-- a slice of the call's own that was not there before w -/
def New (w : World) (e : TypeId) (s : Nat) (v : Value) (n : Nat) (xs : List Value) (w' : World) : Prop := Own w' e s v n xs ∧ Kept [] w w' ∧ ∀ k ∈ rowOf v, w.heap.size ≤ k
theorem New.nil (w : World) (e : TypeId) (s : Nat) : New w e s (.slice none 0 0) 0 [] w := ⟨Own.nil _ _ _, Kept.refl _ _, fun k hk => by simp [rowOf, Value.ownBlock] at hk⟩

set_option maxHeartbeats 400000 in
theorem Clone8_any (w : World) (A : Option Addr) (m c : Nat) (cs : List UInt8) (hr : Rd w A (u8s cs)) (hm : cs.length = m) (hA : A = none → m = 0 ∧ c = 0) (hl : m ≤ 140737488355328) :
    Calls Try.prog 46 #[.slice A m c] w fun e w' => ∃ v, e = .returned v ∧ New w 5 1 v m (u8s cs) w' := by
  cases A with
  | none =>
    obtain ⟨rfl, rfl⟩ := hA rfl
    obtain rfl : cs = [] := List.eq_nil_of_length_eq_zero hm
    have hq := eql_nil8
    go_enter Try.func46, Try.ntmps46
    go_wp2
    go_ret
    exact ⟨_, rfl, New.nil _ _ _⟩
  | some a =>
    have Hr := Lib.hid hr
    have Hm := Lib.hid hm
    clear hr hm hA
    have hq := eql_nil8
    go_enter Try.func46, Try.ntmps46
    go_wp2_with (at_builtin; refine wpList_app _ rfl (.tmp 5) (.tmp 6) 28 rfl elem_u8 (by rfl) (World.ownsRow_made w #[] 0 (Nat.zero_le _) (by unfold maxLen; omega) rfl) (by rfl) (Hr.out.alloc _) (by rw [u8s_len, Hm.out]; omega) (u8s_one _) (by unfold maxLen; omega) (by omega) ?_; intro v2 w2 ho2 hk2 hr2)
    go_ret
    refine ⟨v2, rfl, by simpa using ho2, ?_, fun k hk => ?_⟩
    · exact ((Kept.refl [] w).alloc _).trans hk2 (fun i hi => .inr (by simp [rowOf, Value.ownBlock] at hi; omega))
    · rcases hr2 k hk with h1 | h1
      · simp [rowOf, Value.ownBlock] at h1; omega
      · simp at h1; omega

theorem Own.slice {w : World} {e : TypeId} {s n : Nat} {v : Value} {xs : List Value} (h : Own w e s v n xs) : ∃ A cap, v = .slice A n cap ∧ n ≤ cap ∧ cap ≤ maxLen ∧ Rd w A xs ∧ addrOf A = rowOf v ∧ (A = none → n = 0 ∧ cap = 0) := by
  rcases h.2 with ⟨rfl, h0⟩ | ⟨g, cap, cur, rfl, hb, hg, hn, hm, hs, ht⟩
  · obtain ⟨A, cap, h1, h2, h3, h4, h5⟩ := Rd.of_own h
    injection h1 with e1 e2 e3
    subst e1 e3
    exact ⟨none, 0, by rw [← e2], h2, h3, h4, h5, fun _ => ⟨e2.symm, rfl⟩⟩
  · obtain ⟨A, cap, h1, h2, h3, h4, h5⟩ := Rd.of_own h
    injection h1 with e1 e2 e3
    subst e1 e3
    exact ⟨_, _, rfl, h2, h3, h4, h5, fun h => by cases h⟩

end Go.Proofs.Ythdjdfdefibepaa
end

section
namespace Go.Proofs.Ythdjdfdefibepaa
open Go.RowKit
set_option linter.unusedVariables false

/-- v is a slice of bytes that lies in blocks of G and reads bs -/
def RdB (w : World) (G : List Nat) (v : Value) (bs : List UInt8) : Prop :=
  ∃ A m c, v = .slice A m c ∧ bs.length = m ∧ m ≤ c ∧ c ≤ maxLen ∧ Rd w A (u8s bs) ∧ (∀ k ∈ addrOf A, bs ≠ [] → k ∈ G) ∧ (A = none → m = 0 ∧ c = 0)
theorem u8s_ne {bs : List UInt8} (h : u8s bs ≠ []) : bs ≠ [] := by rintro rfl; exact h rfl
theorem u8s_nil {bs : List UInt8} (h : u8s bs = []) : bs = [] := by simpa [u8s] using h
theorem RdB.kept {w w' : World} {G S : List Nat} {v : Value} {bs : List UInt8} (h : RdB w G v bs) (hk : Kept S w w') (hd : ∀ k ∈ G, k ∉ S) : RdB w' G v bs := by
  obtain ⟨A, m, c, h1, h2, h3, h4, h5, h6, h7⟩ := h
  exact ⟨A, m, c, h1, h2, h3, h4, h5.kept hk (fun hne k hk' => hd k (h6 k hk' (u8s_ne hne))), h6, h7⟩
theorem RdB.rd {w : World} {G : List Nat} {A : Option Addr} {m c : Nat} {bs : List UInt8} (h : RdB w G (.slice A m c) bs) : Rd w A (u8s bs) := by
  obtain ⟨A', m', c', e, h2, h3, h4, h5, h6, h7⟩ := h
  injection e with e1 e2 e3
  subst e1 e2 e3
  exact h5
theorem RdB.len {w : World} {G : List Nat} {A : Option Addr} {m c : Nat} {bs : List UInt8} (h : RdB w G (.slice A m c) bs) : bs.length = m ∧ m ≤ c ∧ c ≤ maxLen ∧ (A = none → m = 0 ∧ c = 0) := by
  obtain ⟨A', m', c', e, h2, h3, h4, h5, h6, h7⟩ := h
  injection e with e1 e2 e3
  subst e1 e2 e3
  exact ⟨h2, h3, h4, h7⟩
theorem RdB.of_own {w : World} {v : Value} {bs : List UInt8} {n : Nat} (h : Own w 5 1 v n (u8s bs)) : RdB w (rowOf v) v bs := by
  obtain ⟨A, c, rfl, h1, h2, h3, h4, h5⟩ := h.slice
  exact ⟨A, n, c, rfl, by have := h.1; simp [u8s] at this; omega, h1, h2, h3, fun k hk _ => h4 ▸ hk, h5⟩
theorem RdB.mono {w : World} {G G' : List Nat} {v : Value} {bs : List UInt8} (h : RdB w G v bs) (hg : ∀ k ∈ G, k ∈ G') : RdB w G' v bs := by
  obtain ⟨A, m, c, h1, h2, h3, h4, h5, h6, h7⟩ := h
  exact ⟨A, m, c, h1, h2, h3, h4, h5, fun k hk hne => hg k (h6 k hk hne), h7⟩

/-- the reader (a struct of type t) at block b has bs left, which lie in blocks of G; its error is e -/
structure RdrT (t : TypeId) (w : World) (b : Nat) (G : List Nat) (bs : List UInt8) (e : Int) : Prop where
  ex : ∃ v, Blk w b t #[v, .int .i64 e] ∧ RdB w G v bs
  ne : b ∉ G
theorem RdrT.kept {t : TypeId} {w w' : World} {b : Nat} {G S : List Nat} {bs : List UInt8} {e : Int} (h : RdrT t w b G bs e) (hk : Kept S w w') (hb : b ∉ S) (hd : ∀ k ∈ G, k ∉ S) : RdrT t w' b G bs e := by
  obtain ⟨v, h1, h2⟩ := h.ex
  exact ⟨⟨v, h1.kept hk hb, h2.kept hk hd⟩, h.ne⟩
theorem RdrT.drewN {t : TypeId} {w : World} {b : Nat} {G : List Nat} {bs : List UInt8} {e : Int} (h : RdrT t w b G bs e) (n : Nat) : RdrT t (w.drewN n) b G bs e := h.kept (S := []) ((Kept.refl _ _).drewN n) (by simp) (by simp)
theorem RdrT.drew {t : TypeId} {w : World} {b : Nat} {G : List Nat} {bs : List UInt8} {e : Int} (h : RdrT t w b G bs e) : RdrT t w.drew b G bs e := h.kept (S := []) (Kept.refl _ _).drew (by simp) (by simp)
/-- what taking n bytes does: what comes, what is left, the error -/
def tk (bs : List UInt8) (e n : Int) : List UInt8 × List UInt8 × Int :=
  if e ≠ 0 ∨ n < 0 then ([], bs, e) else if bs.length < n then ([], [], 2) else (bs.take n.toNat, bs.drop n.toNat, e)

theorem Rd.take {w : World} {A : Option Addr} {bs : List UInt8} (h : Rd w A (u8s bs)) (n : Nat) : Rd w A (u8s (bs.take n)) := by
  intro hne
  have : u8s bs ≠ [] := by
    intro h0; rw [u8s_nil h0] at hne; simp [u8s] at hne
  obtain ⟨g, o, rfl, hc⟩ := h this
  refine ⟨g, o, rfl, fun j u hu => hc j u ?_⟩
  simp only [u8s, List.map_take, List.getElem?_take] at hu
  split at hu
  · exact hu
  · cases hu
theorem Rd.drop {w : World} {A : Option Addr} {bs : List UInt8} (h : Rd w A (u8s bs)) (n : Nat) : Rd w (A.map (·.add n)) (u8s (bs.drop n)) := by
  intro hne
  have : u8s bs ≠ [] := by
    intro h0; rw [u8s_nil h0] at hne; simp [u8s] at hne
  obtain ⟨g, o, rfl, hc⟩ := h this
  refine ⟨g, o + n, by simp [Addr.add_lit], fun j u hu => ?_⟩
  rw [Nat.add_assoc]
  refine hc (n + j) u ?_
  simpa [u8s, List.getElem?_drop] using hu

theorem ne_take {bs : List UInt8} {k : Nat} (h : bs.take k ≠ []) : bs ≠ [] := by rintro rfl; simp at h
theorem ne_drop {bs : List UInt8} {k : Nat} (h : bs.drop k ≠ []) : bs ≠ [] := by rintro rfl; simp at h
end Go.Proofs.Ythdjdfdefibepaa
end
