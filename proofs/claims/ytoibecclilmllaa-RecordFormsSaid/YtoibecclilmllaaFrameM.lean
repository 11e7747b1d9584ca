
/-
  Frames as bytes: plain laws. What is put is taken; what is scanned.
-/
import Derived.Test.YtoibecclilmllaaFrameT
import Derived.Test.YtoibecclilmllaaLv
namespace Go.Proofs.Ytoibecclilmllaa
open Go.RowKit
set_option linter.unusedVariables false

theorem num_cons' (b : UInt8) (l : List UInt8) : num (b :: l) = b.toNat * 256 ^ l.length + num l := by
  have h : ∀ (l : List UInt8) (a : Nat), l.foldl (fun n b => n * 256 + b.toNat) a = a * 256 ^ l.length + num l := by
    intro l
    induction l with
    | nil => intro a; simp [num]
    | cons x l ih =>
      intro a
      have h1 := ih (a * 256 + x.toNat)
      have h2 := ih (0 * 256 + x.toNat)
      simp only [List.foldl_cons, List.length_cons, num] at *
      rw [h1, h2, Nat.pow_succ, Nat.add_mul, Nat.zero_mul, Nat.zero_add, Nat.mul_assoc, Nat.mul_comm 256]
      omega
  have := h l (0 * 256 + b.toNat)
  simpa [num] using this
theorem num_beK' (x w : Nat) : num (beK x w w) = x % 256 ^ w := by
  have h : ∀ w k, k ≤ w → num (beK x w k) = x / 256 ^ (w - k) % 256 ^ k := by
    intro w k
    induction k with
    | zero => intro _; simp [beK, num, Nat.mod_one]
    | succ k ih =>
      intro hk
      rw [beK_succ, num_snoc, ih (by omega)]
      have e1 : (2 : Nat) ^ (8 * (w - 1 - k)) = 256 ^ (w - (k + 1)) := by
        rw [Nat.pow_mul]; congr 1; omega
      have e2 : 256 ^ (w - k) = 256 ^ (w - (k + 1)) * 256 := by rw [← Nat.pow_succ]; congr 1; omega
      rw [e1, e2, ← Nat.div_div_eq_div_mul, UInt8.toNat_ofNat']
      generalize x / 256 ^ (w - (k + 1)) = y
      have e3 : (256 : Nat) ^ (k + 1) = 256 * 256 ^ k := by rw [Nat.pow_succ, Nat.mul_comm]
      have e4 : (2 : Nat) ^ 8 = 256 := by decide
      rw [e3, e4, Nat.mod_mul]
      generalize y / 256 % 256 ^ k = z
      omega
  have := h w w (Nat.le_refl _)
  simpa using this
theorem nat64_pos {n : Int} (h0 : 0 ≤ n) (h1 : n ≤ 255) : ((nat64 n % 256 : Nat) : Int) = n := by unfold nat64; omega

theorem putE_cases (f : FrameD) : (putE f = 0 ∧ 0 ≤ f.kind ∧ f.kind ≤ 255 ∧ 0 ≤ f.ver ∧ f.ver ≤ 255 ∧ f.body.length ≤ 4096) ∨ (putE f ≠ 0 ∧ putF f = []) := by
  unfold putF putE
  by_cases h : f.kind < 0 ∨ 255 < f.kind ∨ f.ver < 0 ∨ 255 < f.ver
  · right; simp [h]
  · by_cases h2 : 4096 < f.body.length
    · right; simp [h, h2]
    · left; simp [h, h2]; omega
theorem putF_ok {f : FrameD} (h : putE f = 0) : putF f = putB f := by simp [putF, h]
theorem putF_len {f : FrameD} (h : putE f = 0) : (putF f).length = 16 + f.body.length := by rw [putF_ok h, putB_len]
theorem putF_len_le (f : FrameD) : (putF f).length ≤ 16 + f.body.length := by
  by_cases h : putE f = 0
  · rw [putF_len h]; omega
  · simp [putF, h]

/-- what is put is taken -/
theorem take_put (f : FrameD) (rest : List UInt8) (h : putE f = 0) : takeF (putF f ++ rest) = (f, 16 + f.body.length, 0) := by
  rcases putE_cases f with ⟨_, h1, h2, h3, h4, h5⟩ | ⟨h0, _⟩
  · rw [putF_ok h]
    have e : putB f ++ rest = [103, 111, 105, 116] ++ (beK (nat64 f.kind) 1 1 ++ (beK (nat64 f.ver) 1 1 ++ (beK (nat64 f.body.length) 2 2 ++ (beK (crc (head8 f)) 4 4 ++ (beK (crc f.body) 4 4 ++ (f.body ++ rest)))))) := by
      simp [putB, head8]
    rw [e, takeF_parts _ _ _ _ _ _ _ rfl (beK_len _ _ _) (beK_len _ _ _) (beK_len _ _ _) (beK_len _ _ _) (beK_len _ _ _)]
    have hn : nat64 (f.body.length : Int) = f.body.length := by unfold nat64; omega
    have e2 : num (beK (nat64 f.body.length) 2 2) = f.body.length := by rw [hn, num_beK']; omega
    have e3 : num (beK (crc (head8 f)) 4 4) = crc (head8 f) := by rw [num_beK']; have := crc_lt (head8 f); omega
    have e4 : num (beK (crc f.body) 4 4) = crc f.body := by rw [num_beK']; have := crc_lt f.body; omega
    have e5 : ([103, 111, 105, 116] : List UInt8) ++ (beK (nat64 f.kind) 1 1 ++ (beK (nat64 f.ver) 1 1 ++ beK (nat64 f.body.length) 2 2)) = head8 f := by simp [head8]
    have e6 : (f.body ++ rest).take f.body.length = f.body := List.take_left' rfl
    unfold takeP
    rw [e2, e3, e4, e5, e6, if_neg (by simp), if_neg (by simp), if_neg (by omega), if_neg (by simp), if_neg (by simp), num_beK', num_beK']
    have k1 := nat64_pos h1 h2
    have k2 := nat64_pos h3 h4
    rw [show (256 : Nat) ^ 1 = 256 from rfl, k1, k2]
  · exact absurd h h0
/-- of a beginning of what was put nothing is taken: it is short -/
theorem take_short (f : FrameD) (k : Nat) (h : putE f = 0) (hk : k < (putF f).length) : takeF ((putF f).take k) = (default, 0, 2) := by
  have hl := putF_len h
  by_cases h16 : k < 16
  · unfold takeF
    rw [if_pos (by rw [List.length_take]; omega)]
  · rcases putE_cases f with ⟨_, h1, h2, h3, h4, h5⟩ | ⟨h0, _⟩
    · obtain ⟨j, rfl⟩ : ∃ j, k = 16 + j := ⟨k - 16, by omega⟩
      have e : putF f = ([103, 111, 105, 116] ++ (beK (nat64 f.kind) 1 1 ++ (beK (nat64 f.ver) 1 1 ++ (beK (nat64 f.body.length) 2 2 ++ (beK (crc (head8 f)) 4 4 ++ (beK (crc f.body) 4 4)))))) ++ f.body := by
        rw [putF_ok h]; simp [putB, head8]
      have e' : (putF f).take (16 + j) = [103, 111, 105, 116] ++ (beK (nat64 f.kind) 1 1 ++ (beK (nat64 f.ver) 1 1 ++ (beK (nat64 f.body.length) 2 2 ++ (beK (crc (head8 f)) 4 4 ++ (beK (crc f.body) 4 4 ++ f.body.take j))))) := by
        rw [e, List.take_append, List.take_of_length_le (by simp [beK_len])]
        simp [beK_len]
      rw [e', takeF_parts _ _ _ _ _ _ _ rfl (beK_len _ _ _) (beK_len _ _ _) (beK_len _ _ _) (beK_len _ _ _) (beK_len _ _ _)]
      have hn : nat64 (f.body.length : Int) = f.body.length := by unfold nat64; omega
      have e2 : num (beK (nat64 f.body.length) 2 2) = f.body.length := by rw [hn, num_beK']; omega
      have e3 : num (beK (crc (head8 f)) 4 4) = crc (head8 f) := by rw [num_beK']; have := crc_lt (head8 f); omega
      have e5 : ([103, 111, 105, 116] : List UInt8) ++ (beK (nat64 f.kind) 1 1 ++ (beK (nat64 f.ver) 1 1 ++ beK (nat64 f.body.length) 2 2)) = head8 f := by simp [head8]
      unfold takeP
      rw [e2, e3, e5, if_neg (by simp), if_neg (by simp), if_neg (by omega), if_pos (by rw [List.length_take]; omega)]
    · exact absurd h h0

/-- a frame that was taken has bytes -/
theorem take_len (bs : List UInt8) (h : (takeF bs).2.2 = 0) : 16 ≤ (takeF bs).2.1 ∧ (takeF bs).2.1 ≤ bs.length ∧ (takeF bs).2.1 = 16 + (takeF bs).1.body.length := by
  by_cases hl : bs.length < 16
  · unfold takeF at h; rw [if_pos hl] at h; simp at h
  · obtain ⟨m4, k1, v1, n2, c4, s4, rest, hbs, l1, l2, l3, l4, l5, l6, ht⟩ := take_parts bs (by omega)
    rw [ht] at h ⊢
    have hb : bs.length = 16 + rest.length := by rw [hbs]; simp; omega
    unfold takeP at h ⊢
    split at h <;> try (simp at h; done)
    split at h <;> try (simp at h; done)
    split at h <;> try (simp at h; done)
    split at h <;> try (simp at h; done)
    split at h <;> try (simp at h; done)
    rename_i h1 h2 h3 h4 h5
    rw [if_neg h1, if_neg h2, if_neg h3, if_neg h4, if_neg h5]
    simp only [List.length_take]
    omega
theorem take_none (bs : List UInt8) (h : (takeF bs).2.2 ≠ 0) : takeF bs = (default, 0, (takeF bs).2.2) := by
  by_cases hl : bs.length < 16
  · unfold takeF; rw [if_pos hl]
  · obtain ⟨m4, k1, v1, n2, c4, s4, rest, hbs, l1, l2, l3, l4, l5, l6, ht⟩ := take_parts bs (by omega)
    rw [ht] at h ⊢
    unfold takeP at h ⊢
    split
    · rfl
    split
    · rfl
    split
    · rfl
    split
    · rfl
    split
    · rfl
    rename_i h1 h2 h3 h4 h5
    rw [if_neg h1, if_neg h2, if_neg h3, if_neg h4, if_neg h5] at h
    exact absurd rfl h

/-- the frames that bytes begin with, how many bytes they have, what ends them -/
def scanN : Nat → List UInt8 → List FrameD × Nat × Int
  | 0, _ => ([], 0, 0)
  | k + 1, bs => if bs = [] then ([], 0, 0) else if (takeF bs).2.2 ≠ 0 then ([], 0, (takeF bs).2.2) else
      ((takeF bs).1 :: (scanN k (bs.drop (takeF bs).2.1)).1, (takeF bs).2.1 + (scanN k (bs.drop (takeF bs).2.1)).2.1, (scanN k (bs.drop (takeF bs).2.1)).2.2)
def scanF (bs : List UInt8) : List FrameD × Nat × Int := scanN bs.length bs
theorem scanN_any : ∀ (k k' : Nat) (bs : List UInt8), bs.length ≤ k → bs.length ≤ k' → scanN k bs = scanN k' bs := by
  intro k
  induction k with
  | zero =>
    intro k' bs h h'
    obtain rfl : bs = [] := List.eq_nil_of_length_eq_zero (by omega)
    cases k' <;> simp [scanN]
  | succ k ih =>
    intro k' bs h h'
    cases k' with
    | zero =>
      obtain rfl : bs = [] := List.eq_nil_of_length_eq_zero (by omega)
      simp [scanN]
    | succ k' =>
      simp only [scanN]
      split
      · rfl
      · split
        · rfl
        · rename_i h1 h2
          have ht := take_len bs (by simpa using h2)
          rw [ih k' (bs.drop (takeF bs).2.1) (by rw [List.length_drop]; omega) (by rw [List.length_drop]; omega)]
theorem scanF_nil : scanF [] = ([], 0, 0) := rfl
theorem scanF_err {bs : List UInt8} (hne : bs ≠ []) (h : (takeF bs).2.2 ≠ 0) : scanF bs = ([], 0, (takeF bs).2.2) := by
  cases bs with
  | nil => exact absurd rfl hne
  | cons b bs => unfold scanF; simp only [List.length_cons, scanN, if_neg (List.cons_ne_nil b bs), if_pos h]
theorem scanF_cons {bs : List UInt8} (hne : bs ≠ []) (h : (takeF bs).2.2 = 0) :
    scanF bs = ((takeF bs).1 :: (scanF (bs.drop (takeF bs).2.1)).1, (takeF bs).2.1 + (scanF (bs.drop (takeF bs).2.1)).2.1, (scanF (bs.drop (takeF bs).2.1)).2.2) := by
  have ht := take_len bs h
  have e : scanF (bs.drop (takeF bs).2.1) = scanN (bs.length - 1) (bs.drop (takeF bs).2.1) := scanN_any _ _ _ (Nat.le_refl _) (by rw [List.length_drop]; omega)
  rw [e]
  cases bs with
  | nil => exact absurd rfl hne
  | cons b bs =>
    unfold scanF
    simp only [List.length_cons, scanN, if_neg (List.cons_ne_nil b bs), h, ne_eq, not_true_eq_false, if_false, Nat.add_sub_cancel]
theorem scanF_len : ∀ (k : Nat) (bs : List UInt8), bs.length ≤ k → (scanF bs).2.1 ≤ bs.length ∧ 16 * (scanF bs).1.length ≤ bs.length := by
  intro k
  induction k with
  | zero => intro bs h; rw [List.eq_nil_of_length_eq_zero (by omega : bs.length = 0)]; simp [scanF_nil]
  | succ k ih =>
    intro bs h
    by_cases hne : bs = []
    · subst hne; simp [scanF_nil]
    · by_cases he : (takeF bs).2.2 = 0
      · have ht := take_len bs he
        have h1 := ih (bs.drop (takeF bs).2.1) (by rw [List.length_drop]; omega)
        rw [List.length_drop] at h1
        rw [scanF_cons hne he]
        simp only [List.length_cons]
        omega
      · rw [scanF_err hne he]; simp

/-- frames one behind the other -/
def joinF (l : List FrameD) : List UInt8 := l.flatMap putF
theorem joinF_nil : joinF [] = [] := rfl
theorem joinF_cons (f : FrameD) (l : List FrameD) : joinF (f :: l) = putF f ++ joinF l := by simp [joinF]
theorem joinF_app (l l' : List FrameD) : joinF (l ++ l') = joinF l ++ joinF l' := by simp [joinF]
theorem scan_join : ∀ (l : List FrameD) (rest : List UInt8), (∀ f ∈ l, putE f = 0) → scanF (joinF l ++ rest) = (l ++ (scanF rest).1, (joinF l).length + (scanF rest).2.1, (scanF rest).2.2)
  | [], rest, _ => by simp [joinF_nil]
  | f :: l, rest, h => by
    have hf := h f (by simp)
    have hl := putF_len hf
    have hne : joinF (f :: l) ++ rest ≠ [] := by
      intro h0
      have h0 := congrArg List.length h0
      rw [joinF_cons, List.length_append, List.length_append, hl, List.length_nil] at h0; omega
    have e : joinF (f :: l) ++ rest = putF f ++ (joinF l ++ rest) := by rw [joinF_cons, List.append_assoc]
    have ht := take_put f (joinF l ++ rest) hf
    rw [← e] at ht
    rw [scanF_cons hne (by rw [ht]), ht]
    simp only
    have hd : (joinF (f :: l) ++ rest).drop (16 + f.body.length) = joinF l ++ rest := by rw [e]; exact List.drop_left' hl
    rw [hd, scan_join l rest (fun g hg => h g (by simp [hg])), joinF_cons]
    simp only [List.cons_append, List.length_append, hl, Nat.add_assoc]
theorem scan_cut (l : List FrameD) (k cut : Nat) (h : ∀ f ∈ l, putE f = 0) (hcut : cut ≤ (joinF l).length) (hk : k ≤ l.length) (h1 : (joinF (l.take k)).length ≤ cut) (h2 : k < l.length → cut < (joinF (l.take (k + 1))).length) :
    scanF ((joinF l).take cut) = (l.take k, (joinF (l.take k)).length, if cut = (joinF (l.take k)).length then 0 else 2) := by
  have e : joinF l = joinF (l.take k) ++ joinF (l.drop k) := by rw [← joinF_app, List.take_append_drop]
  have et : (joinF l).take cut = joinF (l.take k) ++ (joinF (l.drop k)).take (cut - (joinF (l.take k)).length) := by
    rw [e, List.take_append, List.take_of_length_le h1]
  rw [et, scan_join _ _ (fun f hf => h f (List.mem_of_mem_take hf))]
  by_cases hc : cut = (joinF (l.take k)).length
  · rw [if_pos hc, ← hc, Nat.sub_self, List.take_zero, scanF_nil]; simp
  · rw [if_neg hc]
    have hlt : k < l.length := by
      rcases Nat.lt_or_ge k l.length with h3 | h3
      · exact h3
      · exfalso
        rw [List.take_of_length_le (by omega)] at h1 hc
        omega
    have hx := List.getElem_cons_drop (h := hlt)
    have hfe := h (l[k]) (List.getElem_mem hlt)
    have h3 := h2 hlt
    rw [List.take_succ_eq_append_getElem hlt, joinF_app, List.length_append, joinF_cons, joinF_nil, List.append_nil] at h3
    have hd : (joinF (l.drop k)).take (cut - (joinF (l.take k)).length) = (putF l[k]).take (cut - (joinF (l.take k)).length) := by
      rw [← hx, joinF_cons, List.take_append_of_le_length (by omega)]
    rw [hd, scanF_err (by
      intro h0
      have h0 := congrArg List.length h0
      rw [List.length_take, List.length_nil] at h0
      omega) (by rw [take_short _ _ hfe (by omega)]; simp), take_short _ _ hfe (by omega)]
    simp
def sameFs : List FrameD → List FrameD → Bool
  | [], [] => true
  | f :: l, g :: l' => sameF f g && sameFs l l'
  | _, _ => false
theorem sameFs_refl : ∀ l : List FrameD, sameFs l l = true
  | [] => rfl
  | f :: l => by simp [sameFs, sameF_refl, sameFs_refl l]
end Go.Proofs.Ytoibecclilmllaa
