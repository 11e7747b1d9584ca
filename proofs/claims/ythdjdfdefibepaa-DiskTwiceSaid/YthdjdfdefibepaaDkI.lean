
/-
  The disk: what a crash leaves; its inner function.
-/
import Derived.Test.YthdjdfdefibepaaDkH
namespace Go.Proofs.Ythdjdfdefibepaa
open Go.RowKit Go.ChangeShapes Go.WideShapes Go.ChangeAt Go.Deep Go.MapKept
set_option linter.unusedVariables false

def pickD (ps : Bs) (n : Nat) : Nat := match ps with | [] => 0 | q :: _ => q.toNat % (n + 1)
theorem pickD_le (ps : Bs) (n : Nat) : pickD ps n ≤ n := by
  unfold pickD
  split
  · exact Nat.zero_le _
  · have := Nat.mod_lt (UInt8.toNat ‹_›) (show 0 < n + 1 by omega); omega
def cutAll (names : List (Bs × Nat)) : List Bs → Bs → List FlE → List FlE
  | [], ps, fs => fs
  | x :: l, ps, fs => match getM names x with
    | some i => (match fs[i]? with
      | some f => cutAll names l (ps.drop 1) (fs.set i ⟨f.b.take (f.sure + pickD ps (f.b.length - f.sure)), f.sure + pickD ps (f.b.length - f.sure)⟩)
      | none => cutAll names l (ps.drop 1) fs)
    | none => cutAll names l (ps.drop 1) fs
def runC (m : List (Bs × Nat)) (l : List ChD) : List (Bs × Nat) := l.foldl doD m
def okRun (n : Nat) (m : List (Bs × Nat)) : List ChD → Prop
  | [] => True
  | c :: l => okC n m c ∧ okRun n (doD m c) l
def craN (D : DkD) (ps : Bs) : List (Bs × Nat) := runC D.sur (D.ch.take (pickD ps D.ch.length))
def craD (D : DkD) (ps : Bs) : DkD := { D with files := cutAll (craN D ps) (srtN ((craN D ps).map (·.1))) (ps.drop 1) D.files, now := craN D ps, sur := craN D ps, ch := [], fail := 0 }

theorem RdB.some {w : World} {G : List Nat} {A : Option Addr} {m c : Nat} {q : UInt8} {ps : Bs} (h : RdB w G (.slice A m c) (q :: ps)) : ∃ g o, A = some ⟨g, o, none⟩ ∧ g < w.heap.size ∧ g ∈ G ∧ w.cell? ⟨g, o, none⟩ = some (.int .u8 (q.toNat : Nat)) := by
  obtain ⟨g, o, h1, h2⟩ := h.rd (by simp [u8s])
  have hc := h2 0 (.int .u8 (q.toNat : Nat)) (by simp [u8s, u8v])
  rw [Nat.add_zero] at hc
  have hlt : g < w.heap.size := by
    rcases Nat.lt_or_ge g w.heap.size with h3 | h3
    · exact h3
    · have : w.cell? ⟨g, o, none⟩ = none := by
        unfold World.cell?
        simp [Array.getElem?_eq_none h3]
      rw [this] at hc; cases hc
  obtain ⟨A', m', c', e, _, _, _, _, h6, _⟩ := h
  injection e with e1 e2 e3
  subst e1
  refine ⟨g, o, h1, hlt, ?_, hc⟩
  exact h6 g (by rw [h1]; simp [addrOf]) (by simp)
set_option maxRecDepth 100000 in
set_option maxHeartbeats 3200000 in
theorem pick_any (w : World) {gp : Nat} {Gp : List Nat} {P : Option Addr} {m c : Nat} (ps : Bs) (hb : Blk w gp 28 #[.slice P m c]) (hr : RdB w Gp (.slice P m c) ps) (hg : gp ∉ Gp) (n : Nat) (hn : n ≤ 1000000000) :
    Calls Try.prog 44 #[.int .i64 (n : Nat), .pointer (some ⟨gp, 0, none⟩)] w fun e w' => e = .returned (.int .i64 (pickD ps n : Nat)) ∧ Kept [gp] w w' ∧ ∃ P' m' c', Blk w' gp 28 #[.slice P' m' c'] ∧ RdB w' Gp (.slice P' m' c') (ps.drop 1) := by
  have HB := Lib.hid hb
  have HR := Lib.hid hr
  have hc := hb.cell
  have hf := hb.frozen
  have hl := hb.lt
  obtain ⟨l1, l2, l3, l4⟩ := hr.len
  unfold maxLen at l3
  cases ps with
  | nil =>
    obtain rfl : m = 0 := by simpa using l1.symm
    clear hb hr
    go_enter Try.func44, Try.ntmps44
    go_wp2
    go_ret
    exact ⟨rfl, Kept.refl _ _, P, 0, c, HB.out, HR.out⟩
  | cons q qs =>
    obtain ⟨g, o, rfl, hgl, hgG, hq⟩ := hr.some
    have hm : m = qs.length + 1 := by simpa using l1.symm
    have hgp : ¬ gp = g := fun e => hg (e ▸ hgG)
    have hqb := q.toNat_lt
    have i0 : ((m : Int) == 0) = false := by simp; omega
    have i1 : (0 : Int) < (m : Int) := by omega
    have iw : IntKind.i64.wrap ((n : Int) + 1) = (n : Int) + 1 := IntWalk.i64_in _ (by omega)
    have iz : ((n : Int) + 1 == 0) = false := by simp; omega
    have iz2 : ¬ ((n : Int) + 1 = 0) := by omega
    have HD := Lib.hid (HR.out.drop 1 (by omega))
    have HM := Lib.hid hm
    clear hb hr hm l1
    go_enter Try.func44, Try.ntmps44
    go_upto_region 4 with fail
    have kE : ∀ v, Kept [gp] w (w.setCell ⟨gp, 0, none⟩ v) := fun v => (Kept.refl _ _).setCell (.inl (by simp)) _
    have KE := Lib.hid kE
    clear kE
    have HP := Lib.hid (show ((pickD (q :: qs) n : Nat) : Int) = (q.toNat : Int) % ((n : Int) + 1) by unfold pickD; simp)
    by_cases hc1 : c = 1
    · have hm1 : m = 1 := by omega
      have hq0 : qs = [] := List.eq_nil_of_length_eq_zero (by have := HM.out; omega)
      have HQ := Lib.hid hq0
      subst hc1 hm1
      clear hq0
      go_wp2
      go_ret
      refine ⟨by rw [HP.out]; rfl, KE.out _, _, _, _, HB.out.set 0 _, ?_⟩
      rw [HQ.out]
      exact ⟨_, _, _, rfl, rfl, by omega, by unfold maxLen; omega, Rd.nil _ _, by simp, by simp⟩
    · have hc2 : (1 : Int) < (c : Int) := by omega
      have j1 : (1 : Int) ≤ (m : Int) := by omega
      have j2 : (m : Int) ≤ (c : Int) := by omega
      have hcn : ¬ c = 1 := hc1
      go_wp2
      go_ret
      refine ⟨by rw [HP.out]; rfl, KE.out _, _, _, _, HB.out.set 0 _, ?_⟩
      exact RdB.kept (v := .slice (some ⟨g, o + 1, none⟩) (m - 1) (c - 1)) HD.out (KE.out _) (fun k hk hm => hg (by simp at hm; subst hm; exact hk))
end Go.Proofs.Ythdjdfdefibepaa
