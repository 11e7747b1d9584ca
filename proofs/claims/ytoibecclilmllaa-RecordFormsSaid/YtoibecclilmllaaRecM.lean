
/-
  Records: plain laws. What a record is, plain, as it is read, may be; its bytes.
-/
import Derived.Test.YtoibecclilmllaaLv
import Derived.Test.YtoibecclilmllaaOctS
namespace Go.Proofs.Ytoibecclilmllaa
open Go.RowKit
set_option linter.unusedVariables false

structure TupD where
  src : UInt32
  dst : UInt32
  proto : Int
  sport : Int
  dport : Int
instance : Inhabited TupD := ⟨⟨0, 0, 0, 0, 0⟩⟩
structure BackD where
  id : Int
  addr : UInt32
  weight : Int
instance : Inhabited BackD := ⟨⟨0, 0, 0⟩⟩
structure RecD where
  kind : Int
  tup : TupD
  fb : Int
  fg : Int
  fs : Int
  gen : Int
  backs : List BackD
  back : Int
  until_ : Int
  count : Int
instance : Inhabited RecD := ⟨⟨0, default, 0, 0, 0, 0, [], 0, 0, 0⟩⟩

def inB (n most : Int) : Bool := decide (0 ≤ n) && decide (n ≤ most)
def verB (v : Int) : Bool := decide (1 ≤ v) && decide (v ≤ 3)
def mayT (t : TupD) : Bool := (decide (t.proto = 6) || decide (t.proto = 17)) && (decide (0 ≤ t.sport) && (decide (t.sport ≤ 65535) && (decide (0 ≤ t.dport) && decide (t.dport ≤ 65535))))
def mayB (b : BackD) : Bool := inB b.id 65535 && (decide (1 ≤ b.weight) && decide (b.weight ≤ 10))
def timeB (t : Int) : Bool := inB t 1099511627776
def mayR (r : RecD) : Bool :=
  if r.kind = 1 then mayT r.tup && (inB r.fb 65535 && (inB r.fg 1000000 && timeB r.fs))
  else if r.kind = 2 then mayT r.tup
  else if r.kind = 3 then inB r.gen 1000000 && (decide (r.backs.length ≤ 16) && r.backs.all mayB)
  else if r.kind = 4 then inB r.back 65535 && timeB r.until_
  else if r.kind = 5 then inB r.back 65535
  else if r.kind = 6 then inB r.count 1000000
  else false
/-- without what its kind has not -/
def plainR (r : RecD) : RecD :=
  if r.kind = 1 then { (default : RecD) with kind := r.kind, tup := r.tup, fb := r.fb, fg := r.fg, fs := r.fs }
  else if r.kind = 2 then { (default : RecD) with kind := r.kind, tup := r.tup }
  else if r.kind = 3 then { (default : RecD) with kind := r.kind, gen := r.gen, backs := r.backs }
  else if r.kind = 4 then { (default : RecD) with kind := r.kind, back := r.back, until_ := r.until_ }
  else if r.kind = 5 then { (default : RecD) with kind := r.kind, back := r.back }
  else if r.kind = 6 then { (default : RecD) with kind := r.kind, count := r.count }
  else { (default : RecD) with kind := r.kind }
def light1 (b : BackD) : BackD := { b with weight := 1 }
/-- as it is read from a format -/
def inR (r : RecD) (v : Int) : RecD :=
  if verB v = false then default else
    let p := plainR r
    { p with fg := if v < 2 then 0 else p.fg, fs := if v < 3 then 0 else p.fs, backs := if v < 2 then p.backs.map light1 else p.backs }
def sameT (a b : TupD) : Bool := a.src == b.src && (a.dst == b.dst && (a.proto == b.proto && (a.sport == b.sport && a.dport == b.dport)))
def sameB (a b : BackD) : Bool := a.id == b.id && (a.addr == b.addr && a.weight == b.weight)
def sameBs : List BackD → List BackD → Bool
  | [], [] => true
  | a :: l, b :: l' => sameB a b && sameBs l l'
  | _, _ => false
def sameFl (a b : RecD) : Bool := sameT a.tup b.tup && (a.fb == b.fb && (a.fg == b.fg && a.fs == b.fs))
def sameP (a b : RecD) : Bool := a.kind == b.kind && (sameFl a b && (a.gen == b.gen && (a.back == b.back && (a.until_ == b.until_ && (a.count == b.count && sameBs a.backs b.backs)))))
def sameR (a b : RecD) : Bool := sameP (plainR a) (plainR b)

theorem sameT_iff {a b : TupD} : sameT a b = true ↔ a = b := by
  cases a; cases b; simp [sameT]
theorem sameB_iff {a b : BackD} : sameB a b = true ↔ a = b := by
  cases a; cases b; simp [sameB]
theorem sameBs_iff : ∀ {a b : List BackD}, sameBs a b = true ↔ a = b
  | [], [] => by simp [sameBs]
  | [], _ :: _ => by simp [sameBs]
  | _ :: _, [] => by simp [sameBs]
  | a :: l, b :: l' => by simp [sameBs, sameB_iff, sameBs_iff (a := l) (b := l')]
theorem sameP_iff {a b : RecD} : sameP a b = true ↔ a = b := by
  cases a; cases b
  simp only [sameP, sameFl, Bool.and_eq_true, sameT_iff, sameBs_iff, beq_iff_eq, RecD.mk.injEq]
  constructor
  · rintro ⟨h1, ⟨h2, h3, h4, h5⟩, h6, h7, h8, h9, h10⟩; exact ⟨h1, h2, h3, h4, h5, h6, h10, h7, h8, h9⟩
  · rintro ⟨h1, h2, h3, h4, h5, h6, h10, h7, h8, h9⟩; exact ⟨h1, ⟨h2, h3, h4, h5⟩, h6, h7, h8, h9, h10⟩
theorem sameR_iff {a b : RecD} : sameR a b = true ↔ plainR a = plainR b := sameP_iff
theorem sameBs_len : ∀ {l l' : List BackD}, l.length ≠ l'.length → sameBs l l' = false
  | [], [], h => absurd rfl h
  | [], _ :: _, _ => rfl
  | _ :: _, [], _ => rfl
  | f :: l, g :: l', h => by simp [sameBs, sameBs_len (l := l) (l' := l') (by simpa using h)]
theorem sameBs_drop {l l' : List BackD} {k : Nat} (h : k < l.length) (h' : k < l'.length) : sameBs (l.drop k) (l'.drop k) = (sameB l[k] l'[k] && sameBs (l.drop (k + 1)) (l'.drop (k + 1))) := by
  rw [← List.getElem_cons_drop (h := h), ← List.getElem_cons_drop (h := h')]; rfl

theorem plain_kind (r : RecD) : (plainR r).kind = r.kind := by
  unfold plainR; repeat' split
  all_goals rfl
theorem plain_plain (r : RecD) : plainR (plainR r) = plainR r := by
  by_cases h1 : r.kind = 1
  · simp [plainR, h1]
  by_cases h2 : r.kind = 2
  · simp [plainR, h2]
  by_cases h3 : r.kind = 3
  · simp [plainR, h3]
  by_cases h4 : r.kind = 4
  · simp [plainR, h4]
  by_cases h5 : r.kind = 5
  · simp [plainR, h5]
  by_cases h6 : r.kind = 6
  · simp [plainR, h6]
  simp [plainR, h1, h2, h3, h4, h5, h6]
theorem may_plain (r : RecD) : mayR (plainR r) = mayR r := by
  by_cases h1 : r.kind = 1
  · simp [plainR, mayR, h1]
  by_cases h2 : r.kind = 2
  · simp [plainR, mayR, h2]
  by_cases h3 : r.kind = 3
  · simp [plainR, mayR, h3]
  by_cases h4 : r.kind = 4
  · simp [plainR, mayR, h4]
  by_cases h5 : r.kind = 5
  · simp [plainR, mayR, h5]
  by_cases h6 : r.kind = 6
  · simp [plainR, mayR, h6]
  simp [plainR, mayR, h1, h2, h3, h4, h5, h6]
theorem may_kind {r : RecD} (h : mayR r = true) : 1 ≤ r.kind ∧ r.kind ≤ 6 := by
  unfold mayR at h
  split at h; omega
  split at h; omega
  split at h; omega
  split at h; omega
  split at h; omega
  split at h; omega
  cases h
/-- the answer of the reference's May, on a plain record -/
def mayQ (r : RecD) : Bool :=
  if r.kind < 1 ∨ 6 < r.kind then false else
    if ((r.kind = 1 ∨ r.kind = 2) ∧ mayT (plainR r).tup = false) ∨ 16 < (plainR r).backs.length then false else
      (plainR r).backs.all mayB && (inB (plainR r).fb 65535 && (inB (plainR r).fg 1000000 && (timeB (plainR r).fs && (inB (plainR r).gen 1000000 && (inB (plainR r).back 65535 && (timeB (plainR r).until_ && inB (plainR r).count 1000000))))))
theorem mayQ_eq (r : RecD) : mayQ r = mayR r := by
  have z1 : inB 0 65535 = true := rfl
  have z2 : inB 0 1000000 = true := rfl
  have z3 : timeB 0 = true := rfl
  by_cases h1 : r.kind = 1
  · cases hm : mayT r.tup <;> simp [mayQ, plainR, mayR, h1, hm, z1, z2, z3, default]
  by_cases h2 : r.kind = 2
  · cases hm : mayT r.tup <;> simp [mayQ, plainR, mayR, h2, hm, z1, z2, z3, default]
  by_cases h3 : r.kind = 3
  · by_cases hl : r.backs.length ≤ 16
    · have : ¬ 16 < r.backs.length := by omega
      simp [mayQ, plainR, mayR, h3, z1, z2, z3, hl, this, default, Bool.and_comm]
    · have : 16 < r.backs.length := by omega
      simp [mayQ, plainR, mayR, h3, hl, this, default]
  by_cases h4 : r.kind = 4
  · simp [mayQ, plainR, mayR, h4, z1, z2, z3, default]
  by_cases h5 : r.kind = 5
  · simp [mayQ, plainR, mayR, h5, z1, z2, z3, default]
  by_cases h6 : r.kind = 6
  · simp [mayQ, plainR, mayR, h6, z1, z2, z3, default]
  have : r.kind < 1 ∨ 6 < r.kind := by omega
  simp [mayQ, mayR, h1, h2, h3, h4, h5, h6, this]
end Go.Proofs.Ytoibecclilmllaa
