
/-
  Plain laws of records for the laws on them: what its kind has not makes no difference; two records have one body just if they are the same; written and read.
-/
import Derived.Test.YtoibecclilmllaaRecK
import Derived.Test.YtoibecclilmllaaRecY
namespace Go.Proofs.Ytoibecclilmllaa
open Go.RowKit
set_option linter.unusedVariables false

theorem body_plain (r : RecD) (v : Int) : bodyR (plainR r) v = bodyR r v := by
  by_cases h1 : r.kind = 1
  · simp [plainR, bodyR, h1]
  by_cases h2 : r.kind = 2
  · simp [plainR, bodyR, h2]
  by_cases h3 : r.kind = 3
  · simp [plainR, bodyR, h3]
  by_cases h4 : r.kind = 4
  · simp [plainR, bodyR, h4]
  by_cases h5 : r.kind = 5
  · simp [plainR, bodyR, h5]
  by_cases h6 : r.kind = 6
  · simp [plainR, bodyR, h6]
  simp [plainR, bodyR, h1, h2, h3, h4, h5, h6]
theorem in3 (r : RecD) : inR r 3 = plainR r := by
  unfold inR; rw [if_neg (by simp [verB])]; simp
theorem encE_ok {r : RecD} {v : Int} (hv : verB v = true) (hy : mayR r = true) : encE r v = 0 := by simp [encE, hv, hy]
theorem encF_yes {r : RecD} {v : Int} (hv : verB v = true) (hy : mayR r = true) : encF r v = ⟨r.kind, v, bodyR r v⟩ := by simp [encF, hv, hy]
theorem enc_of_plain {r s : RecD} (h : plainR r = plainR s) (v : Int) : mayR r = mayR s ∧ encE r v = encE s v ∧ encF r v = encF s v := by
  have hm : mayR r = mayR s := by rw [← may_plain r, h, may_plain]
  have hk : r.kind = s.kind := by rw [← plain_kind r, h, plain_kind]
  have hb : bodyR r v = bodyR s v := by rw [← body_plain r, h, body_plain]
  exact ⟨hm, by simp [encE, hm], by simp [encF, hm, hk, hb]⟩
theorem same_body {r s : RecD} (hr : mayR r = true) (hs : mayR s = true) : sameR r s = ((r.kind == s.kind) && (bodyR r 3 == bodyR s 3)) := by
  rw [Bool.eq_iff_iff, sameR_iff]
  simp only [Bool.and_eq_true, beq_iff_eq]
  constructor
  · intro h
    exact ⟨by rw [← plain_kind r, h, plain_kind], by rw [← body_plain r, h, body_plain]⟩
  · rintro ⟨hk, hb⟩
    have e1 := dec_enc (v := 3) (by rfl) hr 17 (by omega)
    have e2 := dec_enc (v := 3) (by rfl) hs 17 (by omega)
    rw [hk, hb, e2] at e1
    have := congrArg (·.1) e1
    simp only [in3] at this
    exact this.symm
/-- what is written is read -/
theorem back_enc {r : RecD} {v : Int} (hv : verB v = true) (hy : mayR r = true) : decE (encF r v) = 0 ∧ decR (encF r v) = inR r v := by
  rw [encF_yes hv hy]
  have e := dec_enc hv hy 17 (by omega)
  have hg : goodR 17 r.kind v (bodyR r v) = true := by
    unfold goodR
    rw [e]
    simp [may_in hv hy]
  simp [decE, decR, hv, hg, e]
/-- what is read is written so -/
theorem back_dec {f : FrameD} (h : decE f = 0) : verB f.ver = true ∧ mayR (decR f) = true ∧ encE (decR f) f.ver = 0 ∧ encF (decR f) f.ver = f := by
  have hv : verB f.ver = true := by
    cases hv : verB f.ver with
    | true => rfl
    | false => simp [decE, hv] at h
  have hg : goodR 17 f.kind f.ver f.body = true := by
    cases hg : goodR 17 f.kind f.ver f.body with
    | true => rfl
    | false => simp [decE, hv, hg] at h
  have e := enc_dec hv hg
  have hd : decR f = (rdR 17 f.kind f.ver (some f.body)).1 := by simp [decR, hv, hg]
  rw [hd]
  refine ⟨hv, e.2, encE_ok hv e.2, ?_⟩
  rw [encF_yes hv e.2, e.1, rdR_kind]
theorem decE_cases (f : FrameD) : decE f = 0 ∨ (decE f ≠ 0 ∧ decR f = default) := by
  unfold decE decR
  by_cases hv : verB f.ver = true
  · by_cases hg : goodR 17 f.kind f.ver f.body = true
    · simp [hv, hg]
    · right; simp [hv, hg]
  · right; simp [hv]
theorem encE_cases (r : RecD) (v : Int) : (encE r v = 0 ∧ verB v = true ∧ mayR r = true) ∨ (encE r v ≠ 0 ∧ encF r v = default ∧ (verB v = false ∨ mayR r = false)) := by
  unfold encE encF
  by_cases hv : verB v = true
  · by_cases hm : mayR r = true
    · left; simp [hv, hm]
    · right; simp [hv, hm]
  · right; simp [hv]
theorem sameR_refl (r : RecD) : sameR r r = true := sameR_iff.2 rfl
theorem in_in {r : RecD} {v : Int} (hv : verB v = true) : plainR (inR r v) = inR r v := by
  have e : inR r v = { plainR r with fg := if v < 2 then 0 else (plainR r).fg, fs := if v < 3 then 0 else (plainR r).fs, backs := if v < 2 then (plainR r).backs.map light1 else (plainR r).backs } := by
    unfold inR; rw [if_neg (by simp [hv])]
  rw [e]
  by_cases h1 : r.kind = 1
  · simp [plainR, h1, default]
  by_cases h2 : r.kind = 2
  · simp [plainR, h2, default]
  by_cases h3 : r.kind = 3
  · simp [plainR, h3, default]
  by_cases h4 : r.kind = 4
  · simp [plainR, h4, default]
  by_cases h5 : r.kind = 5
  · simp [plainR, h5, default]
  by_cases h6 : r.kind = 6
  · simp [plainR, h6, default]
  simp [plainR, h1, h2, h3, h4, h5, h6, default]
/-- another record's fields where its kind has none -/
def mixR (r j : RecD) : RecD :=
  { kind := r.kind
    tup := if r.kind = 1 ∨ r.kind = 2 then r.tup else j.tup
    fb := if r.kind = 1 ∨ r.kind = 2 then r.fb else j.fb
    fg := if r.kind = 1 ∨ r.kind = 2 then r.fg else j.fg
    fs := if r.kind = 1 ∨ r.kind = 2 then r.fs else j.fs
    gen := if r.kind = 3 then r.gen else j.gen
    backs := if r.kind = 3 then r.backs else j.backs
    back := if r.kind = 4 ∨ r.kind = 5 then r.back else j.back
    until_ := if r.kind = 4 then r.until_ else j.until_
    count := if r.kind = 6 then r.count else j.count }
theorem mix_plain (r j : RecD) : plainR r = plainR (mixR r j) := by
  by_cases h1 : r.kind = 1
  · simp [plainR, mixR, h1]
  by_cases h2 : r.kind = 2
  · simp [plainR, mixR, h2]
  by_cases h3 : r.kind = 3
  · simp [plainR, mixR, h3]
  by_cases h4 : r.kind = 4
  · simp [plainR, mixR, h4]
  by_cases h5 : r.kind = 5
  · simp [plainR, mixR, h5]
  by_cases h6 : r.kind = 6
  · simp [plainR, mixR, h6]
  simp [plainR, mixR, h1, h2, h3, h4, h5, h6]
end Go.Proofs.Ytoibecclilmllaa
