
/-
  Plain laws of MigrateParts: in two parts it is as at once.
-/
import Derived.Test.YtogdpfjbclnlnaaLawR
namespace Go.Proofs.Ytogdpfjbclnlnaa
open Go.RowKit Go.ChangeShapes Go.WideShapes Go.Deep
set_option linter.unusedVariables false

theorem inR_kind {r : RecD} {v : Int} (hv : verB v = true) : (inR r v).kind = r.kind := by
  rw [inR_of hv]; exact plain_kind r
theorem mig_kind (p : RecD) (a b : Int) : (migP p a b).kind = p.kind := by unfold migP; split <;> rfl
theorem ways_ver {a b : Int} (h : waysB a b = true) : verB a = true ∧ verB b = true := by
  simp [waysB] at h; simp [verB]; omega
theorem migP_may {p : RecD} {a b : Int} (h : mayR p = true) : mayR (migP p a b) = true := by
  unfold migP
  split
  · rename_i k
    have hm : (mayT p.tup && (inB p.fb 65535 && (inB p.fg 1000000 && timeB p.fs))) = true := by simpa [mayR, k] using h
    simp only [Bool.and_eq_true] at hm
    obtain ⟨m1, m2, m3, m4⟩ := hm
    have h1 : inB 1 1000000 = true := rfl
    have h2 : timeB 0 = true := rfl
    simp only [mayR, k, if_true, m1, m2, Bool.true_and, Bool.and_eq_true]
    constructor
    · split
      · exact h1
      · exact m3
    · split
      · exact h2
      · exact m4
  · exact h
theorem light_light (l : List BackD) : (l.map light1).map light1 = l.map light1 := by
  rw [List.map_map]; rfl
/-- what comes of it, written out -/
theorem mig_of {r : RecD} {a b : Int} (hw : waysB a b = true) (hm : mayR r = true) : migE r a b = 0 ∧ migR r a b = migP (inR r a) a b ∧ mayR (migR r a b) = true := by
  have h1 : migR r a b = migP (inR r a) a b := by simp [migR, hw, hm]
  exact ⟨by simp [migE, hw, hm], h1, by rw [h1]; exact migP_may (may_in (ways_ver hw).1 hm)⟩
theorem parts_same {r : RecD} {a b c : Int} (h1 : waysB a b = true) (h2 : waysB b c = true) (hm : mayR r = true) : migR (migR r a b) b c = migR r a c := by
  have h3 : waysB a c = true := by simp [waysB] at h1 h2 ⊢; omega
  obtain ⟨-, e1, m1⟩ := mig_of h1 hm
  obtain ⟨-, e2, -⟩ := mig_of h2 m1
  obtain ⟨-, e3, -⟩ := mig_of h3 hm
  rw [e2, e3, e1]
  have va := (ways_ver h1).1
  have vb := (ways_ver h2).1
  have hk := inR_kind (r := r) va
  have hab : 1 ≤ a ∧ a ≤ b ∧ b ≤ c ∧ c ≤ 3 := by simp [waysB] at h1 h2; omega
  have hpp := in_in (r := r) va
  obtain ⟨p, hp⟩ : ∃ p, inR r a = p := ⟨_, rfl⟩
  have hfs : a < 3 → p.fs = 0 := by intro h; rw [← hp, inR_of va]; simp [h]
  have hfg : a < 2 → p.fg = 0 ∧ p.backs.map light1 = p.backs := by
    intro h; rw [← hp, inR_of va]; simp [h, light1, Function.comp_def]
  rw [hp] at hk hpp ⊢
  by_cases k1 : p.kind = 1
  · have hb0 : p.backs = [] := by rw [← hpp]; simp [plainR, k1, default]
    have hq : plainR (migP p a b) = migP p a b := by
      have : plainR p = p := hpp
      unfold migP; rw [if_pos k1]
      rw [← this]
      simp [plainR, k1, default]
    rw [inR_of vb, hq]
    cases p with
    | mk kind tup fb fg fs gen backs back until_ count =>
      simp only at k1 hb0 hfs hfg
      subst k1 hb0
      have hc : (a = 1 ∧ b = 1) ∨ (a = 1 ∧ b = 2) ∨ (a = 1 ∧ b = 3) ∨ (a = 2 ∧ b = 2) ∨ (a = 2 ∧ b = 3) ∨ (a = 3 ∧ b = 3) := by omega
      have hcc : c = 1 ∨ c = 2 ∨ c = 3 := by omega
      rcases hc with ⟨rfl, rfl⟩ | ⟨rfl, rfl⟩ | ⟨rfl, rfl⟩ | ⟨rfl, rfl⟩ | ⟨rfl, rfl⟩ | ⟨rfl, rfl⟩ <;> rcases hcc with rfl | rfl | rfl <;> simp [migP] at hfs hfg ⊢ <;> first | omega | (obtain rfl := hfs; first | (obtain rfl := hfg; simp) | simp) | simp
  · have e : ∀ x y, migP p x y = p := fun x y => by unfold migP; rw [if_neg k1]
    have hn := plain_no (r := p) k1
    rw [hpp] at hn
    have hin : inR p b = p := by
      rw [inR_of vb, hpp]
      by_cases hb : b < 2
      · have ha : a < 2 := by omega
        have := (hfg ha).2
        simp only [if_pos hb, if_pos (show b < 3 by omega), this]
        cases p; simp only at hn; simp [hn.1, hn.2]
      · simp only [if_neg hb]
        cases p; simp only at hn
        by_cases h3 : b < 3 <;> simp [h3, hn.2]
    rw [e, hin, e, e]
theorem parts_self {r : RecD} {a : Int} (h1 : waysB a a = true) (hm : mayR r = true) : migR r a a = inR r a := by
  rw [(mig_of h1 hm).2.1]
  have va := (ways_ver h1).1
  unfold migP
  split
  · rename_i k
    have hfs : a ≤ 2 → (inR r a).fs = 0 := by intro h; rw [inR_of va]; simp [show a < 3 by omega]
    have h1 : ¬ (a = 1 ∧ 2 ≤ a) := by omega
    have h2 : ¬ (a ≤ 2 ∧ a = 3) := by omega
    rw [if_neg h1, if_neg h2]
  · rfl
theorem parts_put {r : RecD} {a b : Int} (h1 : waysB a b = true) (hm : mayR r = true) (hk : r.kind = 1) : (migR r a b).tup = r.tup ∧ (migR r a b).fb = r.fb := by
  rw [(mig_of h1 hm).2.1]
  have va := (ways_ver h1).1
  have e : (migP (inR r a) a b).tup = (inR r a).tup ∧ (migP (inR r a) a b).fb = (inR r a).fb := by unfold migP; split <;> exact ⟨rfl, rfl⟩
  rw [e.1, e.2, inR_of va]
  simp [plainR, hk]
theorem parts_rest {r : RecD} {a b : Int} (h1 : waysB a b = true) (hm : mayR r = true) (hk : r.kind ≠ 1) (hk3 : r.kind ≠ 3) : sameR (migR r a b) r = true := by
  rw [sameR_iff, (mig_of h1 hm).2.1]
  have va := (ways_ver h1).1
  have k1 : (inR r a).kind ≠ 1 := by rw [inR_kind va]; exact hk
  unfold migP
  rw [if_neg k1, in_in va, inR_of va]
  have hn := plain_no (r := r) hk
  have hb : (plainR r).backs = [] := by
    unfold plainR
    repeat' split
    all_goals first | rfl | (exact absurd ‹r.kind = 3› hk3)
  generalize plainR r = p at *
  cases p; simp only at hn hb; obtain ⟨rfl, rfl⟩ := hn; subst hb; simp
theorem eqT_run (f g : TupD) (w : World) : (Op.equalIn 10000 24 (.agg #[.int .u32 (f.src.toNat : Nat), .int .u32 (f.dst.toNat : Nat), .int .i64 f.proto, .int .i64 f.sport, .int .i64 f.dport]) (.agg #[.int .u32 (g.src.toNat : Nat), .int .u32 (g.dst.toNat : Nat), .int .i64 g.proto, .int .i64 g.sport, .int .i64 g.dport])).run Try.prog w = .ok (sameT f g) w := by
  have u3 := Try.underlying3
  have u22 := Try.underlying22
  have a3 := Try.isAgg3
  have z3 := Try.sizeOf3
  have a22 := Try.isAgg22
  have z22 := Try.sizeOf22
  have hS' : Try.prog.underlying 24 = some (.struct (Try.prog.fieldsOf 24)) := by kernel_rfl
  have hp' : Try.prog.stoodInHeld 24 = false := by kernel_rfl
  rw [show (10000 : Nat) = 9999 + 1 from rfl, run_equalIn_agg w 9999 24 _ _ hS' hp']
  simp only [Program.fieldsOf, Try.underlying24]
  clear hS' hp'
  go_simp
  have e1 := u32_cast f.src g.src
  have e2 := u32_cast f.dst g.dst
  unfold sameT
  cases h1 : f.src == g.src <;> cases h2 : f.dst == g.dst <;> cases h3 : f.proto == g.proto <;> cases h4 : f.sport == g.sport <;> cases h5 : f.dport == g.dport <;> rw [h1] at e1 <;> rw [h2] at e2 <;> simp_all
end Go.Proofs.Ytogdpfjbclnlnaa
