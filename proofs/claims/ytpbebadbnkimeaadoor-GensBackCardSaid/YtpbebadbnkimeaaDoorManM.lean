
/-
  Manifests: plain laws. May it be, its bytes, read back; a byte that is changed is told.
-/
import Derived.Test.YtpbebadbnkimeaaDoorFrameM
import Derived.Test.YtpbebadbnkimeaaDoorRecF
namespace Go.Proofs.YtpbebadbnkimeaaDoor
open Go.RowKit
set_option linter.unusedVariables false
set_option maxRecDepth 100000

-- the sum tells one byte that is changed
theorem crcBit_inj {a b : Nat} (ha : a < 4294967296) (hb : b < 4294967296) (h : crcBit a = crcBit b) : a = b := by
  have top : ∀ x : Nat, x < 2147483648 → (x ^^^ 2197175160).testBit 31 = true := by
    intro x hx
    rw [Nat.testBit_xor, Nat.testBit_lt_two_pow (show x < 2 ^ 31 by omega)]
    decide
  have low : ∀ x : Nat, x < 2147483648 → x.testBit 31 = false := fun x hx => Nat.testBit_lt_two_pow (by omega)
  have back : ∀ x y : Nat, x ^^^ 2197175160 = y ^^^ 2197175160 → x = y := by
    intro x y e
    have := congrArg (· ^^^ 2197175160) e
    simpa [Nat.xor_assoc] using this
  unfold crcBit at h
  by_cases h1 : a % 2 = 1 <;> by_cases h2 : b % 2 = 1 <;> simp only [h1, h2, if_true, if_false] at h
  · have := back _ _ h; omega
  · have e := top (a / 2) (by omega)
    rw [h, low _ (by omega)] at e; cases e
  · have e := top (b / 2) (by omega)
    rw [← h, low _ (by omega)] at e; cases e
  · omega
theorem crcBits_inj {a b : Nat} (ha : a < 4294967296) (hb : b < 4294967296) : ∀ k, crcBits k a = crcBits k b → a = b
  | 0, h => h
  | k + 1, h => crcBits_inj ha hb k (crcBit_inj (crcBits_lt ha k) (crcBits_lt hb k) h)
theorem xor_inj_l {a b c : Nat} (h : a ^^^ c = b ^^^ c) : a = b := by
  have := congrArg (· ^^^ c) h
  simpa [Nat.xor_assoc] using this
theorem xor_inj_r {a b c : Nat} (h : c ^^^ a = c ^^^ b) : a = b := by
  rw [Nat.xor_comm c a, Nat.xor_comm c b] at h; exact xor_inj_l h
theorem crcByte_inj_l {a b : Nat} (ha : a < 4294967296) (hb : b < 4294967296) {x : UInt8} (h : crcByte a x = crcByte b x) : a = b :=
  xor_inj_l (crcBits_inj (xor_byte_lt ha x) (xor_byte_lt hb x) 8 h)
theorem crcByte_inj_r {a : Nat} (ha : a < 4294967296) {x y : UInt8} (h : crcByte a x = crcByte a y) : x = y :=
  UInt8.toNat_inj.1 (xor_inj_r (crcBits_inj (xor_byte_lt ha x) (xor_byte_lt ha y) 8 h))
theorem crcFrom_inj : ∀ (l : List UInt8) {a b : Nat}, a < 4294967296 → b < 4294967296 → crcFrom a l = crcFrom b l → a = b
  | [], _, _, _, _, h => h
  | x :: l, a, b, ha, hb, h => crcByte_inj_l ha hb (crcFrom_inj l (crcByte_lt ha x) (crcByte_lt hb x) h)
theorem crcFrom_app (c : Nat) (l l' : List UInt8) : crcFrom c (l ++ l') = crcFrom (crcFrom c l) l' := by simp [crcFrom]
theorem crc_flip {l : List UInt8} {i : Nat} (hi : i < l.length) {y : UInt8} (hy : y ≠ l[i]) : crc (l.set i y) ≠ crc l := by
  intro h
  have h : crcFrom 4294967295 (l.set i y) = crcFrom 4294967295 l := xor_inj_r h
  have e1 : l = l.take i ++ ([l[i]] ++ l.drop (i + 1)) := by simp
  have e2 : l.set i y = l.take i ++ ([y] ++ l.drop (i + 1)) := by rw [List.set_eq_take_append_cons_drop, if_pos hi]; rfl
  have h1 : crcFrom 4294967295 l = crcFrom (crcByte (crcFrom 4294967295 (l.take i)) l[i]) (l.drop (i + 1)) := by
    conv => lhs; rw [e1]
    rw [crcFrom_app, crcFrom_app]; rfl
  have h2 : crcFrom 4294967295 (l.set i y) = crcFrom (crcByte (crcFrom 4294967295 (l.take i)) y) (l.drop (i + 1)) := by
    rw [e2, crcFrom_app, crcFrom_app]; rfl
  rw [h1, h2] at h
  have hc := crcFrom_lt (l.take i) (c := 4294967295) (by omega)
  exact hy (crcByte_inj_r hc (crcFrom_inj _ (crcByte_lt hc _) (crcByte_lt hc _) h))
/-- what is asked of bytes that a frame is taken from -/
theorem takeF_ok {c : List UInt8} (h : (takeF c).2.2 = 0) : 16 ≤ c.length ∧ num ((c.drop 8).take 4) = crc (c.take 8) ∧ num ((c.drop 6).take 2) ≤ (c.drop 16).length ∧ num ((c.drop 12).take 4) = crc ((c.drop 16).take (num ((c.drop 6).take 2))) ∧
    (takeF c).2.1 = 16 + num ((c.drop 6).take 2) ∧ (takeF c).1 = ⟨(num ((c.drop 4).take 1) : Nat), (num ((c.drop 5).take 1) : Nat), (c.drop 16).take (num ((c.drop 6).take 2))⟩ ∧ num ((c.drop 6).take 2) ≤ 4096 := by
  unfold takeF at h ⊢
  by_cases h16 : c.length < 16
  · rw [if_pos h16] at h; cases h
  · rw [if_neg h16] at h ⊢
    unfold takeP at h ⊢
    by_cases g1 : c.take 4 ≠ [103, 111, 105, 116]
    · rw [if_pos g1] at h; cases h
    rw [if_neg g1] at h ⊢
    by_cases g2 : num ((c.drop 8).take 4) ≠ crc (c.take 4 ++ ((c.drop 4).take 1 ++ ((c.drop 5).take 1 ++ (c.drop 6).take 2)))
    · rw [if_pos g2] at h; cases h
    rw [if_neg g2] at h ⊢
    by_cases g3 : 4096 < num ((c.drop 6).take 2)
    · rw [if_pos g3] at h; cases h
    rw [if_neg g3] at h ⊢
    by_cases g4 : (c.drop 16).length < num ((c.drop 6).take 2)
    · rw [if_pos g4] at h; cases h
    rw [if_neg g4] at h ⊢
    by_cases g5 : num ((c.drop 12).take 4) ≠ crc ((c.drop 16).take (num ((c.drop 6).take 2)))
    · rw [if_pos g5] at h; cases h
    rw [if_neg g5] at h ⊢
    have e : c.take 4 ++ ((c.drop 4).take 1 ++ ((c.drop 5).take 1 ++ (c.drop 6).take 2)) = c.take 8 := by
      have a1 : c.take 8 = c.take 4 ++ (c.drop 4).take 4 := by rw [← List.take_add]
      have a2 : (c.drop 4).take 4 = (c.drop 4).take 1 ++ (c.drop 5).take 3 := by
        have := List.take_add (l := c.drop 4) (i := 1) (j := 3); simpa using this
      have a3 : (c.drop 5).take 3 = (c.drop 5).take 1 ++ (c.drop 6).take 2 := by
        have := List.take_add (l := c.drop 5) (i := 1) (j := 2); simpa using this
      rw [a1, a2, a3]
    rw [e] at g2
    exact ⟨by omega, by simpa using g2, by omega, by simpa using g5, rfl, rfl, by omega⟩
theorem num_inj {a b : List UInt8} (h : num a = num b) (hl : a.length = b.length) : a = b := by
  rw [← be_num a, ← be_num b, h, hl]
theorem set_ne {l : List UInt8} {i : Nat} (hi : i < l.length) {y : UInt8} (hy : y ≠ l[i]) : l.set i y ≠ l := by
  intro h
  have := congrArg (·[i]?) h
  simp [hi] at this
  exact hy this
theorem flip_bad (f : FrameD) (h : putE f = 0) {i : Nat} (hi : i < (putF f).length) {y : UInt8} (hy : y ≠ (putF f)[i]) : (takeF ((putF f).set i y)).2.2 ≠ 0 := by
  intro h0
  have h1 := takeF_ok h0
  have hb := takeF_ok (c := putF f) (by have := take_put f [] h; rw [List.append_nil] at this; rw [this])
  have hlen := putF_len h
  have hf : (takeF (putF f)).1 = f := by have := take_put f [] h; rw [List.append_nil] at this; rw [this]
  have hn : num (((putF f).drop 6).take 2) = f.body.length := by
    have := hb.2.2.2.2.1
    have h2 : (takeF (putF f)).2.1 = 16 + f.body.length := by have := take_put f [] h; rw [List.append_nil] at this; rw [this]
    omega
  generalize putF f = bs at *
  have hget : ∀ (n : Nat) (hn : n ≤ i) (hl : i - n < (bs.drop n).length), (bs.drop n)[i - n] = bs[i] := fun n hn hl => by
    rw [List.getElem_drop]; congr 1; omega
  by_cases c1 : i < 8
  · have e1 : (bs.set i y).take 8 = (bs.take 8).set i y := List.take_set ..
    have e2 : (bs.set i y).drop 8 = bs.drop 8 := by rw [List.drop_set, if_pos c1]
    have hx := h1.2.1
    rw [e1, e2, hb.2.1] at hx
    have hl8 : i < (bs.take 8).length := by rw [List.length_take]; omega
    exact crc_flip hl8 (by rw [List.getElem_take]; exact hy) hx.symm
  have e1 : (bs.set i y).take 8 = bs.take 8 := by rw [List.take_set]; exact List.set_eq_of_length_le (by rw [List.length_take]; omega)
  have e6 : ((bs.set i y).drop 6).take 2 = (bs.drop 6).take 2 := by
    rw [List.drop_set, if_neg (by omega), List.take_set]
    exact List.set_eq_of_length_le (by rw [List.length_take]; omega)
  by_cases c2 : i < 12
  · have hx := h1.2.1
    have e2 : ((bs.set i y).drop 8).take 4 = ((bs.drop 8).take 4).set (i - 8) y := by rw [List.drop_set, if_neg (by omega), List.take_set]
    rw [e1, ← hb.2.1, e2] at hx
    have hl : i - 8 < ((bs.drop 8).take 4).length := by simp; omega
    exact set_ne hl (by rw [List.getElem_take, hget 8 (by omega)]; exact hy) (num_inj hx (by simp))
  by_cases c3 : i < 16
  · have hx := h1.2.2.2.1
    have e2 : ((bs.set i y).drop 12).take 4 = ((bs.drop 12).take 4).set (i - 12) y := by rw [List.drop_set, if_neg (by omega), List.take_set]
    have e3 : (bs.set i y).drop 16 = bs.drop 16 := by rw [List.drop_set, if_pos c3]
    rw [e6, e3, ← hb.2.2.2.1, e2] at hx
    have hl : i - 12 < ((bs.drop 12).take 4).length := by simp; omega
    exact set_ne hl (by rw [List.getElem_take, hget 12 (by omega)]; exact hy) (num_inj hx (by simp))
  · have hx := h1.2.2.2.1
    have e2 : ((bs.set i y).drop 12).take 4 = (bs.drop 12).take 4 := by
      rw [List.drop_set, if_neg (by omega), List.take_set]
      exact List.set_eq_of_length_le (by rw [List.length_take]; omega)
    have e3 : (bs.set i y).drop 16 = (bs.drop 16).set (i - 16) y := by rw [List.drop_set, if_neg c3]
    have hlb : (bs.drop 16).length = f.body.length := by rw [List.length_drop]; omega
    have hy2 := hb.2.2.2.1
    have t1 : (bs.drop 16).take f.body.length = bs.drop 16 := List.take_of_length_le (by omega)
    have t2 : ((bs.drop 16).set (i - 16) y).take f.body.length = (bs.drop 16).set (i - 16) y := List.take_of_length_le (by rw [List.length_set]; omega)
    rw [hn, t1] at hy2
    rw [e6, e2, e3, hn, t2, hy2] at hx
    have hl : i - 16 < (bs.drop 16).length := by omega
    exact crc_flip hl (by rw [hget 16 (by omega)]; exact hy) hx.symm

structure ManD where
  ver : Int
  next : Int
  segs : List Int
instance : Inhabited ManD := ⟨⟨0, 0, []⟩⟩
def rises (next : Int) : Int → List Int → Bool
  | _, [] => true
  | was, s :: l => decide (was < s) && (decide (s < next) && rises next s l)
def mayM (m : ManD) : Bool := verB m.ver && (decide (1 ≤ m.segs.length) && (decide (m.segs.length ≤ 64) && ((decide (1 ≤ m.next) && decide (m.next ≤ 1000000)) && rises m.next 0 m.segs)))
def bodyM (m : ManD) : List UInt8 := u32B m.next ++ (u16B m.segs.length ++ m.segs.flatMap u32B)
def encMF (m : ManD) : List UInt8 := if mayM m = true then putF ⟨100, m.ver, bodyM m⟩ else []
def encME (m : ManD) : Int := if mayM m = true then 0 else 1
/-- so many numbers read -/
def rdU : Nat → Option (List UInt8) → List Int × Option (List UInt8)
  | 0, o => ([], o)
  | k + 1, o => ((rdU k o).1 ++ [((gk (rdU k o).2 4 : Nat) : Int)], nk (rdU k o).2 4)
def rdM (cap : Nat) (ver : Int) (bs : List UInt8) : ManD × Option (List UInt8) :=
  (⟨ver, (gk (some bs) 4 : Nat), (rdU (min (gk (nk (some bs) 4) 2) cap) (nk (nk (some bs) 4) 2)).1⟩, (rdU (min (gk (nk (some bs) 4) 2) cap) (nk (nk (some bs) 4) 2)).2)
def goodM (cap : Nat) (ver : Int) (bs : List UInt8) : Bool := (rdM cap ver bs).2 == some [] && mayM (rdM cap ver bs).1
def decME (bs : List UInt8) : Int :=
  if (takeF bs).2.2 ≠ 0 then (takeF bs).2.2
  else if (takeF bs).2.1 < bs.length ∨ (takeF bs).1.kind ≠ 100 then 3
  else if verB (takeF bs).1.ver = false then 10
  else if goodM 65 (takeF bs).1.ver (takeF bs).1.body = true then 0 else 3
def decMR (bs : List UInt8) : ManD := if decME bs = 0 then (rdM 65 (takeF bs).1.ver (takeF bs).1.body).1 else default
def sameM (a b : ManD) : Bool := a.ver == b.ver && (a.next == b.next && a.segs == b.segs)
theorem rdU_len (o : Option (List UInt8)) : ∀ k, (rdU k o).1.length = k
  | 0 => rfl
  | k + 1 => by simp [rdU, rdU_len o k]
theorem rises_bd {next : Int} (hn : next ≤ 1000000) : ∀ {l : List Int} {was : Int}, 0 ≤ was → rises next was l = true → ∀ s ∈ l, inB s 1000000 = true
  | [], _, _, _, s, hs => by simp at hs
  | x :: l, was, h0, h, s, hs => by
    simp only [rises, Bool.and_eq_true, decide_eq_true_eq] at h
    rcases List.mem_cons.1 hs with rfl | hs
    · simp [inB]; omega
    · exact rises_bd hn (by omega) h.2.2 s hs
theorem rdU_enc : ∀ (l : List Int) (rest : List UInt8), (∀ s ∈ l, inB s 1000000 = true) → rdU l.length (some (l.flatMap u32B ++ rest)) = (l, some rest) := by
  have h : ∀ (m : List Int) (rest : List UInt8), (∀ s ∈ m, inB s 1000000 = true) → rdU m.length (some (m.reverse.flatMap u32B ++ rest)) = (m.reverse, some rest) := by
    intro m
    induction m with
    | nil => intro rest _; simp [rdU]
    | cons b m ih =>
      intro rest ha
      rw [List.length_cons, List.reverse_cons, List.flatMap_append, List.append_assoc]
      have e2 : [b].flatMap u32B = u32B b := by simp
      rw [e2]
      have e := ih (u32B b ++ rest) (fun s hs => ha s (List.mem_cons_of_mem _ hs))
      rw [rdU, e]
      dsimp only
      rw [gk_app (u32B_len _), nk_app (u32B_len _), g32 (ha b (by simp))]
  intro l rest ha
  have := h l.reverse rest (fun s hs => ha s (by simpa using hs))
  simpa using this
theorem mayM_parts {m : ManD} (h : mayM m = true) : verB m.ver = true ∧ 1 ≤ m.segs.length ∧ m.segs.length ≤ 64 ∧ 1 ≤ m.next ∧ m.next ≤ 1000000 ∧ rises m.next 0 m.segs = true := by
  simp only [mayM, Bool.and_eq_true, decide_eq_true_eq] at h
  exact ⟨h.1, h.2.1, h.2.2.1, h.2.2.2.1.1, h.2.2.2.1.2, h.2.2.2.2⟩
theorem flat32_len (l : List Int) : (l.flatMap u32B).length = 4 * l.length := by
  induction l with
  | nil => rfl
  | cons x l ih => rw [List.flatMap_cons, List.length_append, ih, u32B_len, List.length_cons]; omega
theorem putM {m : ManD} (h : mayM m = true) : putE ⟨100, m.ver, bodyM m⟩ = 0 := by
  obtain ⟨h1, h2, h3, -⟩ := mayM_parts h
  simp [verB] at h1
  unfold putE
  rw [if_neg (by simp; omega), if_neg (by simp only [bodyM, List.length_append, u32B_len, u16B_len, flat32_len]; omega)]
theorem rdM_enc {m : ManD} (h : mayM m = true) (cap : Nat) (hc : 65 ≤ cap) : rdM cap m.ver (bodyM m) = (m, some []) := by
  obtain ⟨h1, h2, h3, h4, h5, h6⟩ := mayM_parts h
  have hb := rises_bd h5 (by omega) h6
  unfold rdM bodyM
  rw [gk_app (u32B_len _), nk_app (u32B_len _), gk_app (u16B_len _), nk_app (u16B_len _), g32 (by simp [inB]; omega)]
  have hn : num (u16B (m.segs.length : Int)) = m.segs.length := by
    have := g16 (n := (m.segs.length : Int)) (by simp [inB]; omega); omega
  rw [hn, Nat.min_eq_left (by omega)]
  have := rdU_enc m.segs [] hb
  rw [List.append_nil] at this
  rw [this]
/-- WHAT IS WRITTEN IS READ AS IT WAS -/
theorem man_back {m : ManD} (h : mayM m = true) : decME (encMF m) = 0 ∧ decMR (encMF m) = m := by
  have hp := putM h
  have ht := take_put ⟨100, m.ver, bodyM m⟩ [] hp
  rw [List.append_nil] at ht
  have hr := rdM_enc h 65 (by omega)
  have h0 : decME (encMF m) = 0 := by
    unfold decME encMF
    rw [if_pos h, ht, if_neg (by simp), if_neg (by simp [putF_len hp]), if_neg (by simp [(mayM_parts h).1]), if_pos]
    unfold goodM; rw [hr]; simp [h]
  refine ⟨h0, ?_⟩
  unfold decMR
  rw [if_pos h0]
  unfold encMF
  rw [if_pos h, ht, hr]
/-- with one byte changed it is none -/
theorem man_flip {m : ManD} (h : mayM m = true) {i : Nat} (hi : i < (encMF m).length) {y : UInt8} (hy : y ≠ (encMF m)[i]) : decME ((encMF m).set i y) ≠ 0 := by
  have e : encMF m = putF ⟨100, m.ver, bodyM m⟩ := by unfold encMF; rw [if_pos h]
  have hb := flip_bad ⟨100, m.ver, bodyM m⟩ (putM h) (i := i) (y := y) (by rw [← e]; exact hi) (by simpa only [← e] using hy)
  rw [← e] at hb
  unfold decME
  rw [if_pos hb]; exact hb
/-- a beginning of it is none -/
theorem man_short {m : ManD} (h : mayM m = true) {k : Nat} (hk : k < (encMF m).length) : decME ((encMF m).take k) ≠ 0 := by
  have e : encMF m = putF ⟨100, m.ver, bodyM m⟩ := by unfold encMF; rw [if_pos h]
  rw [e] at hk ⊢
  have := take_short ⟨100, m.ver, bodyM m⟩ k (putM h) hk
  unfold decME
  rw [this]; simp
theorem sameM_iff {a b : ManD} : sameM a b = true ↔ a = b := by
  cases a; cases b; simp [sameM]
theorem goodM_may {cap : Nat} {v : Int} {bs : List UInt8} (h : goodM cap v bs = true) : (rdM cap v bs).1.segs.length ≤ 64 := by
  unfold goodM at h
  simp only [Bool.and_eq_true] at h
  exact (mayM_parts h.2).2.2.1
theorem rdU_none : ∀ (k : Nat) (o : Option (List UInt8)), (rdU k o).2 = none → ∀ j, k ≤ j → (rdU j o).2 = none
  | k, o, h, 0, hj => by
    have e : k = 0 := by omega
    rw [← e]; exact h
  | k, o, h, j + 1, hj => by
    by_cases e : k = j + 1
    · rw [← e]; exact h
    · rw [rdU, rdU_none k o h j (by omega), nk_none]
theorem goodM_cap {cap : Nat} (hc : 65 ≤ cap) (v : Int) (bs : List UInt8) : goodM cap v bs = goodM 65 v bs ∧ (goodM 65 v bs = true → rdM cap v bs = rdM 65 v bs) := by
  by_cases hn : gk (nk (some bs) 4) 2 ≤ 64
  · have e : rdM cap v bs = rdM 65 v bs := by
      unfold rdM; rw [Nat.min_eq_left (show gk (nk (some bs) 4) 2 ≤ cap by omega), Nat.min_eq_left (show gk (nk (some bs) 4) 2 ≤ 65 by omega)]
    exact ⟨by unfold goodM; rw [e], fun _ => e⟩
  · have h : ∀ c, 65 ≤ c → goodM c v bs = false := fun c hc => by
      cases hg : goodM c v bs with
      | false => rfl
      | true =>
        have := goodM_may hg
        simp only [rdM, rdU_len] at this
        omega
    rw [h cap hc, h 65 (by omega)]
    exact ⟨rfl, fun h => by cases h⟩
end Go.Proofs.YtpbebadbnkimeaaDoor
