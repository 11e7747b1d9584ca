/-
  Contracts of small functions on tuples, numbers, backends.
-/
import Derived.Test.YtkacghjglicjiaaGreatLv
import Derived.Test.YtkacghjglicjiaaGreatFrame
namespace Go.Proofs.YtkacghjglicjiaaGreat
set_option linter.unusedVariables false
section
open Go.RowKit
set_option maxRecDepth 100000
theorem num_beK' (x w : Nat) : num (beK x w w) = x % 256 ^ w := by
  have h : ∀ w k, k ≤ w → num (beK x w k) = x / 256 ^ (w - k) % 256 ^ k := by
    intro w k
    induction k with
    | zero => intro _; simp [beK, num, Nat.mod_one]
    | succ k ih =>
      intro hk
      rw [beK_succ, num_snoc, ih (by omega)]
      have e1 : (2 : Nat) ^ (8 * (w - 1 - k)) = 256 ^ (w - (k + 1)) := by
        rw [Nat.pow_mul]; congr 1; omega
      have e2 : 256 ^ (w - k) = 256 ^ (w - (k + 1)) * 256 := by rw [← Nat.pow_succ]; congr 1; omega
      rw [e1, e2, ← Nat.div_div_eq_div_mul, UInt8.toNat_ofNat']
      generalize x / 256 ^ (w - (k + 1)) = y
      have e3 : (256 : Nat) ^ (k + 1) = 256 * 256 ^ k := by rw [Nat.pow_succ, Nat.mul_comm]
      have e4 : (2 : Nat) ^ 8 = 256 := by decide
      rw [e3, e4, Nat.mod_mul]
      generalize y / 256 % 256 ^ k = z
      omega
  have := h w w (Nat.le_refl _)
  simpa using this
theorem nat64_pos {n : Int} (h0 : 0 ≤ n) (h1 : n ≤ 255) : ((nat64 n % 256 : Nat) : Int) = n := by unfold nat64; omega
theorem putE_cases (f : FrameD) : (putE f = 0 ∧ 0 ≤ f.kind ∧ f.kind ≤ 255 ∧ 0 ≤ f.ver ∧ f.ver ≤ 255 ∧ f.body.length ≤ 4096) ∨ (putE f ≠ 0 ∧ putF f = []) := by
  unfold putF putE
  by_cases h : f.kind < 0 ∨ 255 < f.kind ∨ f.ver < 0 ∨ 255 < f.ver
  · right; simp [h]
  · by_cases h2 : 4096 < f.body.length
    · right; simp [h, h2]
    · left; simp [h, h2]; omega
theorem putF_ok {f : FrameD} (h : putE f = 0) : putF f = putB f := by simp [putF, h]
theorem putF_len {f : FrameD} (h : putE f = 0) : (putF f).length = 16 + f.body.length := by rw [putF_ok h, putB_len]
theorem putF_len_le (f : FrameD) : (putF f).length ≤ 16 + f.body.length := by
  by_cases h : putE f = 0
  · rw [putF_len h]; omega
  · simp [putF, h]
theorem take_put (f : FrameD) (rest : List UInt8) (h : putE f = 0) : takeF (putF f ++ rest) = (f, 16 + f.body.length, 0) := by
  rcases putE_cases f with ⟨_, h1, h2, h3, h4, h5⟩ | ⟨h0, _⟩
  · rw [putF_ok h]
    have e : putB f ++ rest = [103, 111, 105, 116] ++ (beK (nat64 f.kind) 1 1 ++ (beK (nat64 f.ver) 1 1 ++ (beK (nat64 f.body.length) 2 2 ++ (beK (crc (head8 f)) 4 4 ++ (beK (crc f.body) 4 4 ++ (f.body ++ rest)))))) := by
      simp [putB, head8]
    rw [e, takeF_parts _ _ _ _ _ _ _ rfl (beK_len _ _ _) (beK_len _ _ _) (beK_len _ _ _) (beK_len _ _ _) (beK_len _ _ _)]
    have hn : nat64 (f.body.length : Int) = f.body.length := by unfold nat64; omega
    have e2 : num (beK (nat64 f.body.length) 2 2) = f.body.length := by rw [hn, num_beK']; omega
    have e3 : num (beK (crc (head8 f)) 4 4) = crc (head8 f) := by rw [num_beK']; have := crc_lt (head8 f); omega
    have e4 : num (beK (crc f.body) 4 4) = crc f.body := by rw [num_beK']; have := crc_lt f.body; omega
    have e5 : ([103, 111, 105, 116] : List UInt8) ++ (beK (nat64 f.kind) 1 1 ++ (beK (nat64 f.ver) 1 1 ++ beK (nat64 f.body.length) 2 2)) = head8 f := by simp [head8]
    have e6 : (f.body ++ rest).take f.body.length = f.body := List.take_left' rfl
    unfold takeP
    rw [e2, e3, e4, e5, e6, if_neg (by simp), if_neg (by simp), if_neg (by omega), if_neg (by simp), if_neg (by simp), num_beK', num_beK']
    have k1 := nat64_pos h1 h2
    have k2 := nat64_pos h3 h4
    rw [show (256 : Nat) ^ 1 = 256 from rfl, k1, k2]
  · exact absurd h h0
theorem take_short (f : FrameD) (k : Nat) (h : putE f = 0) (hk : k < (putF f).length) : takeF ((putF f).take k) = (default, 0, 2) := by
  have hl := putF_len h
  by_cases h16 : k < 16
  · unfold takeF
    rw [if_pos (by rw [List.length_take]; omega)]
  · rcases putE_cases f with ⟨_, h1, h2, h3, h4, h5⟩ | ⟨h0, _⟩
    · obtain ⟨j, rfl⟩ : ∃ j, k = 16 + j := ⟨k - 16, by omega⟩
      have e : putF f = ([103, 111, 105, 116] ++ (beK (nat64 f.kind) 1 1 ++ (beK (nat64 f.ver) 1 1 ++ (beK (nat64 f.body.length) 2 2 ++ (beK (crc (head8 f)) 4 4 ++ (beK (crc f.body) 4 4)))))) ++ f.body := by
        rw [putF_ok h]; simp [putB, head8]
      have e' : (putF f).take (16 + j) = [103, 111, 105, 116] ++ (beK (nat64 f.kind) 1 1 ++ (beK (nat64 f.ver) 1 1 ++ (beK (nat64 f.body.length) 2 2 ++ (beK (crc (head8 f)) 4 4 ++ (beK (crc f.body) 4 4 ++ f.body.take j))))) := by
        rw [e, List.take_append, List.take_of_length_le (by simp [beK_len])]
        simp [beK_len]
      rw [e', takeF_parts _ _ _ _ _ _ _ rfl (beK_len _ _ _) (beK_len _ _ _) (beK_len _ _ _) (beK_len _ _ _) (beK_len _ _ _)]
      have hn : nat64 (f.body.length : Int) = f.body.length := by unfold nat64; omega
      have e2 : num (beK (nat64 f.body.length) 2 2) = f.body.length := by rw [hn, num_beK']; omega
      have e3 : num (beK (crc (head8 f)) 4 4) = crc (head8 f) := by rw [num_beK']; have := crc_lt (head8 f); omega
      have e5 : ([103, 111, 105, 116] : List UInt8) ++ (beK (nat64 f.kind) 1 1 ++ (beK (nat64 f.ver) 1 1 ++ beK (nat64 f.body.length) 2 2)) = head8 f := by simp [head8]
      unfold takeP
      rw [e2, e3, e5, if_neg (by simp), if_neg (by simp), if_neg (by omega), if_pos (by rw [List.length_take]; omega)]
    · exact absurd h h0
theorem take_len (bs : List UInt8) (h : (takeF bs).2.2 = 0) : 16 ≤ (takeF bs).2.1 ∧ (takeF bs).2.1 ≤ bs.length ∧ (takeF bs).2.1 = 16 + (takeF bs).1.body.length := by
  by_cases hl : bs.length < 16
  · unfold takeF at h; rw [if_pos hl] at h; simp at h
  · obtain ⟨m4, k1, v1, n2, c4, s4, rest, hbs, l1, l2, l3, l4, l5, l6, ht⟩ := take_parts bs (by omega)
    rw [ht] at h ⊢
    have hb : bs.length = 16 + rest.length := by rw [hbs]; simp; omega
    unfold takeP at h ⊢
    split at h <;> try (simp at h; done)
    split at h <;> try (simp at h; done)
    split at h <;> try (simp at h; done)
    split at h <;> try (simp at h; done)
    split at h <;> try (simp at h; done)
    rename_i h1 h2 h3 h4 h5
    rw [if_neg h1, if_neg h2, if_neg h3, if_neg h4, if_neg h5]
    simp only [List.length_take]
    omega
def scanN : Nat → List UInt8 → List FrameD × Nat × Int
  | 0, _ => ([], 0, 0)
  | k + 1, bs => if bs = [] then ([], 0, 0) else if (takeF bs).2.2 ≠ 0 then ([], 0, (takeF bs).2.2) else
      ((takeF bs).1 :: (scanN k (bs.drop (takeF bs).2.1)).1, (takeF bs).2.1 + (scanN k (bs.drop (takeF bs).2.1)).2.1, (scanN k (bs.drop (takeF bs).2.1)).2.2)
def scanF (bs : List UInt8) : List FrameD × Nat × Int := scanN bs.length bs
theorem scanN_any : ∀ (k k' : Nat) (bs : List UInt8), bs.length ≤ k → bs.length ≤ k' → scanN k bs = scanN k' bs := by
  intro k
  induction k with
  | zero =>
    intro k' bs h h'
    obtain rfl : bs = [] := List.eq_nil_of_length_eq_zero (by omega)
    cases k' <;> simp [scanN]
  | succ k ih =>
    intro k' bs h h'
    cases k' with
    | zero =>
      obtain rfl : bs = [] := List.eq_nil_of_length_eq_zero (by omega)
      simp [scanN]
    | succ k' =>
      simp only [scanN]
      split
      · rfl
      · split
        · rfl
        · rename_i h1 h2
          have ht := take_len bs (by simpa using h2)
          rw [ih k' (bs.drop (takeF bs).2.1) (by rw [List.length_drop]; omega) (by rw [List.length_drop]; omega)]
theorem scanF_nil : scanF [] = ([], 0, 0) := rfl
theorem scanF_err {bs : List UInt8} (hne : bs ≠ []) (h : (takeF bs).2.2 ≠ 0) : scanF bs = ([], 0, (takeF bs).2.2) := by
  cases bs with
  | nil => exact absurd rfl hne
  | cons b bs => unfold scanF; simp only [List.length_cons, scanN, if_neg (List.cons_ne_nil b bs), if_pos h]
theorem scanF_cons {bs : List UInt8} (hne : bs ≠ []) (h : (takeF bs).2.2 = 0) :
    scanF bs = ((takeF bs).1 :: (scanF (bs.drop (takeF bs).2.1)).1, (takeF bs).2.1 + (scanF (bs.drop (takeF bs).2.1)).2.1, (scanF (bs.drop (takeF bs).2.1)).2.2) := by
  have ht := take_len bs h
  have e : scanF (bs.drop (takeF bs).2.1) = scanN (bs.length - 1) (bs.drop (takeF bs).2.1) := scanN_any _ _ _ (Nat.le_refl _) (by rw [List.length_drop]; omega)
  rw [e]
  cases bs with
  | nil => exact absurd rfl hne
  | cons b bs =>
    unfold scanF
    simp only [List.length_cons, scanN, if_neg (List.cons_ne_nil b bs), h, ne_eq, not_true_eq_false, if_false, Nat.add_sub_cancel]
def joinF (l : List FrameD) : List UInt8 := l.flatMap putF
theorem joinF_nil : joinF [] = [] := rfl
theorem joinF_cons (f : FrameD) (l : List FrameD) : joinF (f :: l) = putF f ++ joinF l := by simp [joinF]
theorem joinF_app (l l' : List FrameD) : joinF (l ++ l') = joinF l ++ joinF l' := by simp [joinF]
theorem scan_join : ∀ (l : List FrameD) (rest : List UInt8), (∀ f ∈ l, putE f = 0) → scanF (joinF l ++ rest) = (l ++ (scanF rest).1, (joinF l).length + (scanF rest).2.1, (scanF rest).2.2)
  | [], rest, _ => by simp [joinF_nil]
  | f :: l, rest, h => by
    have hf := h f (by simp)
    have hl := putF_len hf
    have hne : joinF (f :: l) ++ rest ≠ [] := by
      intro h0
      have h0 := congrArg List.length h0
      rw [joinF_cons, List.length_append, List.length_append, hl, List.length_nil] at h0; omega
    have e : joinF (f :: l) ++ rest = putF f ++ (joinF l ++ rest) := by rw [joinF_cons, List.append_assoc]
    have ht := take_put f (joinF l ++ rest) hf
    rw [← e] at ht
    rw [scanF_cons hne (by rw [ht]), ht]
    simp only
    have hd : (joinF (f :: l) ++ rest).drop (16 + f.body.length) = joinF l ++ rest := by rw [e]; exact List.drop_left' hl
    rw [hd, scan_join l rest (fun g hg => h g (by simp [hg])), joinF_cons]
    simp only [List.cons_append, List.length_append, hl, Nat.add_assoc]
end
section
open Go.RowKit
structure TupD where
  src : UInt32
  dst : UInt32
  proto : Int
  sport : Int
  dport : Int
instance : Inhabited TupD := ⟨⟨0, 0, 0, 0, 0⟩⟩
structure BackD where
  id : Int
  addr : UInt32
  weight : Int
instance : Inhabited BackD := ⟨⟨0, 0, 0⟩⟩
structure RecD where
  kind : Int
  tup : TupD
  fb : Int
  fg : Int
  fs : Int
  gen : Int
  backs : List BackD
  back : Int
  until_ : Int
  count : Int
instance : Inhabited RecD := ⟨⟨0, default, 0, 0, 0, 0, [], 0, 0, 0⟩⟩
def inB (n most : Int) : Bool := decide (0 ≤ n) && decide (n ≤ most)
def verB (v : Int) : Bool := decide (1 ≤ v) && decide (v ≤ 3)
def mayT (t : TupD) : Bool := (decide (t.proto = 6) || decide (t.proto = 17)) && (decide (0 ≤ t.sport) && (decide (t.sport ≤ 65535) && (decide (0 ≤ t.dport) && decide (t.dport ≤ 65535))))
def mayB (b : BackD) : Bool := inB b.id 65535 && (decide (1 ≤ b.weight) && decide (b.weight ≤ 10))
def timeB (t : Int) : Bool := inB t 1099511627776
def mayR (r : RecD) : Bool :=
  if r.kind = 1 then mayT r.tup && (inB r.fb 65535 && (inB r.fg 1000000 && timeB r.fs))
  else if r.kind = 2 then mayT r.tup
  else if r.kind = 3 then inB r.gen 1000000 && (decide (r.backs.length ≤ 16) && r.backs.all mayB)
  else if r.kind = 4 then inB r.back 65535 && timeB r.until_
  else if r.kind = 5 then inB r.back 65535
  else if r.kind = 6 then inB r.count 1000000
  else false
def plainR (r : RecD) : RecD :=
  if r.kind = 1 then { (default : RecD) with kind := r.kind, tup := r.tup, fb := r.fb, fg := r.fg, fs := r.fs }
  else if r.kind = 2 then { (default : RecD) with kind := r.kind, tup := r.tup }
  else if r.kind = 3 then { (default : RecD) with kind := r.kind, gen := r.gen, backs := r.backs }
  else if r.kind = 4 then { (default : RecD) with kind := r.kind, back := r.back, until_ := r.until_ }
  else if r.kind = 5 then { (default : RecD) with kind := r.kind, back := r.back }
  else if r.kind = 6 then { (default : RecD) with kind := r.kind, count := r.count }
  else { (default : RecD) with kind := r.kind }
def light1 (b : BackD) : BackD := { b with weight := 1 }
def inR (r : RecD) (v : Int) : RecD :=
  if verB v = false then default else
    let p := plainR r
    { p with fg := if v < 2 then 0 else p.fg, fs := if v < 3 then 0 else p.fs, backs := if v < 2 then p.backs.map light1 else p.backs }
def sameT (a b : TupD) : Bool := a.src == b.src && (a.dst == b.dst && (a.proto == b.proto && (a.sport == b.sport && a.dport == b.dport)))
def sameB (a b : BackD) : Bool := a.id == b.id && (a.addr == b.addr && a.weight == b.weight)
def sameBs : List BackD → List BackD → Bool
  | [], [] => true
  | a :: l, b :: l' => sameB a b && sameBs l l'
  | _, _ => false
def sameFl (a b : RecD) : Bool := sameT a.tup b.tup && (a.fb == b.fb && (a.fg == b.fg && a.fs == b.fs))
def sameP (a b : RecD) : Bool := a.kind == b.kind && (sameFl a b && (a.gen == b.gen && (a.back == b.back && (a.until_ == b.until_ && (a.count == b.count && sameBs a.backs b.backs)))))
def sameR (a b : RecD) : Bool := sameP (plainR a) (plainR b)
theorem sameT_iff {a b : TupD} : sameT a b = true ↔ a = b := by
  cases a; cases b; simp [sameT]
theorem sameB_iff {a b : BackD} : sameB a b = true ↔ a = b := by
  cases a; cases b; simp [sameB]
theorem sameBs_iff : ∀ {a b : List BackD}, sameBs a b = true ↔ a = b
  | [], [] => by simp [sameBs]
  | [], _ :: _ => by simp [sameBs]
  | _ :: _, [] => by simp [sameBs]
  | a :: l, b :: l' => by simp [sameBs, sameB_iff, sameBs_iff (a := l) (b := l')]
theorem sameP_iff {a b : RecD} : sameP a b = true ↔ a = b := by
  cases a; cases b
  simp only [sameP, sameFl, Bool.and_eq_true, sameT_iff, sameBs_iff, beq_iff_eq, RecD.mk.injEq]
  constructor
  · rintro ⟨h1, ⟨h2, h3, h4, h5⟩, h6, h7, h8, h9, h10⟩; exact ⟨h1, h2, h3, h4, h5, h6, h10, h7, h8, h9⟩
  · rintro ⟨h1, h2, h3, h4, h5, h6, h10, h7, h8, h9⟩; exact ⟨h1, ⟨h2, h3, h4, h5⟩, h6, h7, h8, h9, h10⟩
theorem sameR_iff {a b : RecD} : sameR a b = true ↔ plainR a = plainR b := sameP_iff
theorem sameBs_len : ∀ {l l' : List BackD}, l.length ≠ l'.length → sameBs l l' = false
  | [], [], h => absurd rfl h
  | [], _ :: _, _ => rfl
  | _ :: _, [], _ => rfl
  | f :: l, g :: l', h => by simp [sameBs, sameBs_len (l := l) (l' := l') (by simpa using h)]
theorem sameBs_drop {l l' : List BackD} {k : Nat} (h : k < l.length) (h' : k < l'.length) : sameBs (l.drop k) (l'.drop k) = (sameB l[k] l'[k] && sameBs (l.drop (k + 1)) (l'.drop (k + 1))) := by
  rw [← List.getElem_cons_drop (h := h), ← List.getElem_cons_drop (h := h')]; rfl
theorem plain_kind (r : RecD) : (plainR r).kind = r.kind := by
  unfold plainR; repeat' split
  all_goals rfl
theorem may_plain (r : RecD) : mayR (plainR r) = mayR r := by
  by_cases h1 : r.kind = 1
  · simp [plainR, mayR, h1]
  by_cases h2 : r.kind = 2
  · simp [plainR, mayR, h2]
  by_cases h3 : r.kind = 3
  · simp [plainR, mayR, h3]
  by_cases h4 : r.kind = 4
  · simp [plainR, mayR, h4]
  by_cases h5 : r.kind = 5
  · simp [plainR, mayR, h5]
  by_cases h6 : r.kind = 6
  · simp [plainR, mayR, h6]
  simp [plainR, mayR, h1, h2, h3, h4, h5, h6]
theorem may_kind {r : RecD} (h : mayR r = true) : 1 ≤ r.kind ∧ r.kind ≤ 6 := by
  unfold mayR at h
  split at h; omega
  split at h; omega
  split at h; omega
  split at h; omega
  split at h; omega
  split at h; omega
  cases h
def mayQ (r : RecD) : Bool :=
  if r.kind < 1 ∨ 6 < r.kind then false else
    if ((r.kind = 1 ∨ r.kind = 2) ∧ mayT (plainR r).tup = false) ∨ 16 < (plainR r).backs.length then false else
      (plainR r).backs.all mayB && (inB (plainR r).fb 65535 && (inB (plainR r).fg 1000000 && (timeB (plainR r).fs && (inB (plainR r).gen 1000000 && (inB (plainR r).back 65535 && (timeB (plainR r).until_ && inB (plainR r).count 1000000))))))
theorem mayQ_eq (r : RecD) : mayQ r = mayR r := by
  have z1 : inB 0 65535 = true := rfl
  have z2 : inB 0 1000000 = true := rfl
  have z3 : timeB 0 = true := rfl
  by_cases h1 : r.kind = 1
  · cases hm : mayT r.tup <;> simp [mayQ, plainR, mayR, h1, hm, z1, z2, z3, default]
  by_cases h2 : r.kind = 2
  · cases hm : mayT r.tup <;> simp [mayQ, plainR, mayR, h2, hm, z1, z2, z3, default]
  by_cases h3 : r.kind = 3
  · by_cases hl : r.backs.length ≤ 16
    · have : ¬ 16 < r.backs.length := by omega
      simp [mayQ, plainR, mayR, h3, z1, z2, z3, hl, this, default, Bool.and_comm]
    · have : 16 < r.backs.length := by omega
      simp [mayQ, plainR, mayR, h3, hl, this, default]
  by_cases h4 : r.kind = 4
  · simp [mayQ, plainR, mayR, h4, z1, z2, z3, default]
  by_cases h5 : r.kind = 5
  · simp [mayQ, plainR, mayR, h5, z1, z2, z3, default]
  by_cases h6 : r.kind = 6
  · simp [mayQ, plainR, mayR, h6, z1, z2, z3, default]
  have : r.kind < 1 ∨ 6 < r.kind := by omega
  simp [mayQ, mayR, h1, h2, h3, h4, h5, h6, this]
end
section
open Go.RowKit Go.ChangeShapes Go.WideShapes Go.Deep
theorem ret_bool {a b : Bool} (h : a = b) : Ending.returned (.bool a) = .returned (.bool b) := by rw [h]
set_option maxHeartbeats 1600000 in
theorem tMay_any (w : World) (t : TupD) : Calls Tryz.prog 101 #[.agg #[.int .u32 (t.src.toNat : Nat), .int .u32 (t.dst.toNat : Nat), .int .i64 t.proto, .int .i64 t.sport, .int .i64 t.dport]] w fun e w' => e = .returned (.bool (mayT t)) ∧ Kept [] w w' := by
  by_cases p6 : t.proto = 6
  · have b6 : (t.proto == 6) = true := by simp [p6]
    go_enter Tryz.func101, Tryz.ntmps101
    go_wp2
    all_goals
      go_ret
      refine ⟨ret_bool ?_, (Kept.refl _ _).alloc _⟩
      rw [Bool.eq_iff_iff]; simp [mayT]; omega
  · have b6 : (t.proto == 6) = false := by simp [p6]
    by_cases p17 : t.proto = 17
    · have b17 : (t.proto == 17) = true := by simp [p17]
      go_enter Tryz.func101, Tryz.ntmps101
      go_wp2
      all_goals
        go_ret
        refine ⟨ret_bool ?_, (Kept.refl _ _).alloc _⟩
        rw [Bool.eq_iff_iff]; simp [mayT]; omega
    · have b17 : (t.proto == 17) = false := by simp [p17]
      go_enter Tryz.func101, Tryz.ntmps101
      go_wp2
      all_goals
        go_ret
        refine ⟨ret_bool ?_, (Kept.refl _ _).alloc _⟩
        rw [Bool.eq_iff_iff]; simp [mayT]; omega
set_option maxHeartbeats 1600000 in
theorem rtMay_any (w : World) (t : TupD) : Calls Tryz.prog 65 #[.agg #[.int .u32 (t.src.toNat : Nat), .int .u32 (t.dst.toNat : Nat), .int .i64 t.proto, .int .i64 t.sport, .int .i64 t.dport]] w fun e w' => e = .returned (.bool (mayT t)) ∧ Kept [] w w' := by
  by_cases p6 : t.proto = 6
  · have b6 : (t.proto == 6) = true := by simp [p6]
    go_enter Tryz.func65, Tryz.ntmps65
    go_wp2
    all_goals
      go_ret
      refine ⟨ret_bool ?_, (Kept.refl _ _).alloc _⟩
      rw [Bool.eq_iff_iff]; simp [mayT]; omega
  · have b6 : (t.proto == 6) = false := by simp [p6]
    by_cases p17 : t.proto = 17
    · have b17 : (t.proto == 17) = true := by simp [p17]
      go_enter Tryz.func65, Tryz.ntmps65
      go_wp2
      all_goals
        go_ret
        refine ⟨ret_bool ?_, (Kept.refl _ _).alloc _⟩
        rw [Bool.eq_iff_iff]; simp [mayT]; omega
    · have b17 : (t.proto == 17) = false := by simp [p17]
      go_enter Tryz.func65, Tryz.ntmps65
      go_wp2
      all_goals
        go_ret
        refine ⟨ret_bool ?_, (Kept.refl _ _).alloc _⟩
        rw [Bool.eq_iff_iff]; simp [mayT]; omega
theorem in_any (w : World) (n most : Int) : Calls Tryz.prog 102 #[.int .i64 n, .int .i64 most] w fun e w' => e = .returned (.bool (inB n most)) ∧ w = w' := by
  go_enter Tryz.func102, Tryz.ntmps102
  go_wp2
  all_goals
    go_ret
    refine ⟨ret_bool ?_, rfl⟩
    rw [Bool.eq_iff_iff]; simp [inB]; omega
theorem time_any (w : World) (n : Int) : Calls Tryz.prog 103 #[.int .i64 n] w fun e w' => e = .returned (.bool (timeB n)) ∧ w = w' := by
  go_enter Tryz.func103, Tryz.ntmps103
  go_wp2
  all_goals
    go_ret
    refine ⟨ret_bool ?_, rfl⟩
    rw [Bool.eq_iff_iff]; simp [timeB, inB]; omega
theorem version_any (w : World) (n : Int) : Calls Tryz.prog 56 #[.int .i64 n] w fun e w' => e = .returned (.bool (verB n)) ∧ w = w' := by
  go_enter Tryz.func56, Tryz.ntmps56
  go_wp2
  all_goals
    go_ret
    refine ⟨ret_bool ?_, rfl⟩
    rw [Bool.eq_iff_iff]; simp [verB]; omega
theorem rVersion_any (w : World) (n : Int) : Calls Tryz.prog 26 #[.int .i64 n] w fun e w' => e = .returned (.bool (verB n)) ∧ w = w' := by
  go_enter Tryz.func26, Tryz.ntmps26
  go_wp2
  all_goals
    go_ret
    refine ⟨ret_bool ?_, rfl⟩
    rw [Bool.eq_iff_iff]; simp [verB]; omega
theorem rid_any (w : World) (n : Int) : Calls Tryz.prog 67 #[.int .i64 n] w fun e w' => e = .returned (.bool (inB n 65535)) ∧ w = w' := by
  go_enter Tryz.func67, Tryz.ntmps67
  go_wp2
  all_goals
    go_ret
    refine ⟨ret_bool ?_, rfl⟩
    rw [Bool.eq_iff_iff]; simp [inB]; omega
theorem rcount_any (w : World) (n : Int) : Calls Tryz.prog 68 #[.int .i64 n] w fun e w' => e = .returned (.bool (inB n 1000000)) ∧ w = w' := by
  go_enter Tryz.func68, Tryz.ntmps68
  go_wp2
  all_goals
    go_ret
    refine ⟨ret_bool ?_, rfl⟩
    rw [Bool.eq_iff_iff]; simp [inB]; omega
theorem rtime_any (w : World) (n : Int) : Calls Tryz.prog 69 #[.int .i64 n] w fun e w' => e = .returned (.bool (timeB n)) ∧ w = w' := by
  go_enter Tryz.func69, Tryz.ntmps69
  go_wp2
  all_goals
    go_ret
    refine ⟨ret_bool ?_, rfl⟩
    rw [Bool.eq_iff_iff]; simp [timeB, inB]; omega
set_option maxHeartbeats 800000 in
theorem backend_any (w : World) (b : BackD) : Calls Tryz.prog 106 #[.agg #[.int .i64 b.id, .int .u32 (b.addr.toNat : Nat), .int .i64 b.weight]] w fun e w' => e = .returned (.bool (mayB b)) ∧ Kept [] w w' := by
  cases h : inB b.id 65535
  all_goals
    go_enter Tryz.func106, Tryz.ntmps106
    go_wp2_with (go_at_call 102; refine (in_any _ _ _).mono ?_; rintro e w' ⟨rfl, rfl⟩; rw [h])
    all_goals
      go_ret
      refine ⟨ret_bool ?_, (Kept.refl _ _).alloc _⟩
      rw [Bool.eq_iff_iff]; simp [mayB, h] <;> omega
set_option maxHeartbeats 800000 in
theorem rMayB_any (w : World) (b : BackD) : Calls Tryz.prog 66 #[.agg #[.int .i64 b.id, .int .u32 (b.addr.toNat : Nat), .int .i64 b.weight]] w fun e w' => e = .returned (.bool (mayB b)) ∧ Kept [] w w' := by
  cases h : inB b.id 65535
  all_goals
    go_enter Tryz.func66, Tryz.ntmps66
    go_wp2_with (go_at_call 67; refine (rid_any _ _).mono ?_; rintro e w' ⟨rfl, rfl⟩; rw [h])
    all_goals
      go_ret
      refine ⟨ret_bool ?_, (Kept.refl _ _).alloc _⟩
      rw [Bool.eq_iff_iff]; simp [mayB, h] <;> omega
set_option maxHeartbeats 800000 in
theorem mayF_any (w : World) (b : BackD) : Calls Tryz.prog 105 #[.agg #[.int .i64 b.id, .int .u32 (b.addr.toNat : Nat), .int .i64 b.weight]] w fun e w' => e = .returned (.bool (!mayB b)) ∧ Kept [] w w' := by
  cases h : mayB b
  all_goals
    go_enter Tryz.func105, Tryz.ntmps105
    go_wp2_with (go_at_call 106; refine (backend_any _ b).mono ?_; rintro e w' ⟨rfl, hk⟩; rw [h]; have Hk := Lib.hid hk; clear hk)
    go_ret
    exact ⟨rfl, ((Kept.refl _ _).alloc _).trans Hk.out (by simp)⟩
def BkDec (w : World) (G : List Nat) (cs : List Value) (b : BackD) : Prop := cs = [.int .i64 b.id, .int .u32 (b.addr.toNat : Nat), .int .i64 b.weight]
theorem BkOk : DecOk 3 BkDec where
  len := by rintro w G cs f rfl; rfl
  one := by rintro w G cs f rfl u hu; simp at hu; rcases hu with rfl | rfl | rfl <;> rfl
  kept := by rintro w w' G S cs f h hk hd; exact h
  mono := by rintro w G G' cs f h hg; exact h
abbrev BkArr (w : World) (G : List Nat) (v : Value) (l : List BackD) : Prop := ArrOf w G 3 (fun w => BkDec w G) v l
abbrev BkV (W w : World) (v : Value) (l : List BackD) : Prop := LV BkDec 78 3 W w v l
theorem BkArr.kept {w w' : World} {G S : List Nat} {v : Value} {l : List BackD} (h : BkArr w G v l) (hk : Kept S w w') (hd : ∀ k ∈ G, k ∉ S) : BkArr w' G v l :=
  ArrOf.kept (Dec := fun w => BkDec w G) h hk hd (fun cs a h => h)
theorem BkArr.at {w : World} {G : List Nat} {A : Option Addr} {m c : Nat} {l : List BackD} (h : BkArr w G (.slice A m c) l) {k : Nat} (hk : k < l.length) :
    ∃ g o, A = some ⟨g, o, none⟩ ∧ g < w.heap.size ∧ g ∈ G ∧ w.cell? ⟨g, o + k * 3, none⟩ = some (.int .i64 l[k].id) ∧ w.cell? ⟨g, o + k * 3 + 1, none⟩ = some (.int .u32 (l[k].addr.toNat : Nat)) ∧ w.cell? ⟨g, o + k * 3 + 2, none⟩ = some (.int .i64 l[k].weight) := by
  obtain ⟨A', m', c', e, h1, h2, h3, h4, h5⟩ := h
  injection e with e1 e2 e3
  subst e1 e2 e3
  obtain ⟨g, o, rfl, hg, hlt, hc⟩ := h5 (by rintro rfl; simp at hk)
  obtain ⟨cs, _, rfl, hcell⟩ := hc k _ (List.getElem?_eq_getElem hk)
  exact ⟨g, o, rfl, hlt, hg, by simpa using hcell 0 (by omega), by simpa [Nat.add_assoc] using hcell 1 (by omega), by simpa [Nat.add_assoc] using hcell 2 (by omega)⟩
theorem BkArr.len {w : World} {G : List Nat} {A : Option Addr} {m c : Nat} {l : List BackD} (h : BkArr w G (.slice A m c) l) : l.length = m ∧ m ≤ c ∧ c ≤ maxLen ∧ (A = none → m = 0 ∧ c = 0) := by
  obtain ⟨A', m', c', e, h1, h2, h3, h4, h5⟩ := h
  injection e with e1 e2 e3
  subst e1 e2 e3
  exact ⟨h1, h2, h3, h4⟩
theorem info_back : (Tryz.prog.info? 78).map (fun i => (i.zero, i.size, i.bytes)) = some (some (.agg #[.int .i64 0, .int .u32 0, .int .i64 0]), 3, 24) := by kernel_rfl
theorem elem_back : Elem Tryz.prog 22 78 3 24 := Elem.mk' Tryz.underlying22 info_back rfl (by omega)
end
end Go.Proofs.YtkacghjglicjiaaGreat
