/-
  What is read of what was written, and the walk of OctetBack's inner function.
-/
import Derived.Test.YticjcmjodnedjaaLawD
import Derived.BigQuiet
import Derived.Deep.QuietTactic
import Derived.Deep.DeepCutAuto
import Derived.Deep.CutBlock
namespace Go.Proofs.Yticjcmjodnedjaa
open Go.RowKit Go.ChangeShapes Go.WideShapes
set_option linter.unusedVariables false

def widC (c : CallD) : Nat := if c.to = 0 then 1 else if c.to = 1 then 2 else if c.to = 2 then 4 else if c.to = 3 then 8 else c.raw.length
theorem encC_wid (c : CallD) : (encC c).length = widC c := by
  unfold encC widC; repeat' split
  all_goals first | rw [beK_len] | rfl
/-- what calls leave of bytes: the rest, the error -/
def rds : List CallD → List UInt8 → Int → List UInt8 × Int
  | [], bs, e => (bs, e)
  | c :: l, bs, e => rds l (tk bs e (widC c)).2.1 (tk bs e (widC c)).2.2
theorem rds_snoc (L : List CallD) (c : CallD) (bs : List UInt8) (e : Int) : rds (L ++ [c]) bs e = ((tk (rds L bs e).1 (rds L bs e).2 (widC c)).2.1, (tk (rds L bs e).1 (rds L bs e).2 (widC c)).2.2) := by
  induction L generalizing bs e with
  | nil => rfl
  | cons d L ih => exact ih _ _
theorem rds_len (L : List CallD) (bs : List UInt8) (e : Int) : (rds L bs e).1.length ≤ bs.length := by
  induction L generalizing bs e with
  | nil => exact Nat.le_refl _
  | cons c L ih =>
    refine Nat.le_trans (ih _ _) ?_
    unfold tk; split; simp; split; simp; simp
theorem tk_enc (a b : List UInt8) (n : Nat) (h : a.length = n) : tk (a ++ b) 0 n = (a, b, 0) := by
  subst h
  unfold tk
  rw [if_neg (by omega), if_neg (by simp; omega)]
  simp
theorem rds_full (L : List CallD) (rest : List UInt8) : rds L (encs L ++ rest) 0 = (rest, 0) := by
  induction L with
  | nil => rfl
  | cons c L ih =>
    have : encs (c :: L) ++ rest = encC c ++ (encs L ++ rest) := by simp [encs, List.append_assoc]
    unfold rds
    rw [this, tk_enc _ _ _ (encC_wid c)]
    exact ih
theorem rds_done (L : List CallD) : rds L [] 2 = ([], 2) := by
  induction L with
  | nil => rfl
  | cons c L ih => unfold rds; simpa [tk] using ih
theorem rds_short (L : List CallD) (p q : List UInt8) (h : encs L = p ++ q) (hq : q ≠ []) : rds L p 0 = ([], 2) := by
  induction L generalizing p with
  | nil =>
    have : p ++ q = [] := h.symm
    simp at this
    exact absurd this.2 hq
  | cons c L ih =>
    have he : encs (c :: L) = encC c ++ encs L := by simp [encs]
    rw [he] at h
    by_cases hl : (encC c).length ≤ p.length
    · obtain ⟨p', rfl⟩ : ∃ p', p = encC c ++ p' := by
        refine ⟨p.drop (encC c).length, ?_⟩
        have h1 : (p ++ q).take (encC c).length = p.take (encC c).length := List.take_append_of_le_length hl
        rw [← h, List.take_left'] at h1
        · conv => lhs; rw [← List.take_append_drop (encC c).length p, ← h1]
        · rfl
      unfold rds
      rw [tk_enc _ _ _ (encC_wid c)]
      rw [List.append_assoc] at h
      exact ih p' (List.append_cancel_left h)
    · unfold rds
      have : tk p 0 (widC c) = ([], [], 2) := by
        rw [← encC_wid]
        unfold tk
        rw [if_neg (by omega), if_pos (by omega)]
      rw [this]
      exact rds_done L
theorem num_cons (b : UInt8) (l : List UInt8) : num (b :: l) = b.toNat * 256 ^ l.length + num l := by
  have h : ∀ (l : List UInt8) (a : Nat), l.foldl (fun n b => n * 256 + b.toNat) a = a * 256 ^ l.length + num l := by
    intro l
    induction l with
    | nil => intro a; simp [num]
    | cons x l ih =>
      intro a
      have h1 := ih (a * 256 + x.toNat)
      have h2 := ih (0 * 256 + x.toNat)
      simp only [List.foldl_cons, List.length_cons, num] at *
      rw [h1, h2, Nat.pow_succ, Nat.add_mul, Nat.zero_mul, Nat.zero_add, Nat.mul_assoc, Nat.mul_comm 256]
      omega
  have := h l (0 * 256 + b.toNat)
  simpa [num] using this
theorem num_beK (x w : Nat) : num (beK x w w) = x % 256 ^ w := by
  have h : ∀ w k, k ≤ w → num (beK x w k) = x / 256 ^ (w - k) % 256 ^ k := by
    intro w k
    induction k with
    | zero => intro _; simp [beK, num, Nat.mod_one]
    | succ k ih =>
      intro hk
      rw [beK_succ, num_snoc, ih (by omega)]
      have e1 : (2 : Nat) ^ (8 * (w - 1 - k)) = 256 ^ (w - (k + 1)) := by
        rw [Nat.pow_mul]; congr 1; omega
      have e2 : 256 ^ (w - k) = 256 ^ (w - (k + 1)) * 256 := by rw [← Nat.pow_succ]; congr 1; omega
      rw [e1, e2, ← Nat.div_div_eq_div_mul, UInt8.toNat_ofNat']
      generalize x / 256 ^ (w - (k + 1)) = y
      have e3 : (256 : Nat) ^ (k + 1) = 256 * 256 ^ k := by rw [Nat.pow_succ, Nat.mul_comm]
      have e4 : (2 : Nat) ^ 8 = 256 := by decide
      rw [e3, e4, Nat.mod_mul]
      generalize y / 256 % 256 ^ k = z
      omega
  have := h w w (Nat.le_refl _)
  simpa using this
/-- behind k calls of a full row the next one reads its own bytes -/
theorem full_at {l : List CallD} {N k : Nat} {c : CallD} (hk : k < N) (hc : l[k]? = some c) : (tk (rds (l.take k) (encs (l.take N)) 0).1 (rds (l.take k) (encs (l.take N)) 0).2 (widC c)).1 = encC c := by
  have h1 : l.take N = l.take k ++ (c :: (l.take N).drop (k + 1)) := by
    have : (l.take N)[k]? = some c := by rw [List.getElem?_take, if_pos hk]; exact hc
    obtain ⟨hlt, he⟩ := List.getElem?_eq_some_iff.1 this
    conv => lhs; rw [← List.take_append_drop k (l.take N)]
    rw [List.take_take, Nat.min_eq_left (by omega), List.drop_eq_getElem_cons hlt, he]
  have h2 : encs (l.take N) = encs (l.take k) ++ (encC c ++ encs ((l.take N).drop (k + 1))) := by
    conv => lhs; rw [h1]
    simp [encs]
  rw [h2, rds_full, tk_enc _ _ _ (encC_wid c)]

set_option maxHeartbeats 16000000 in
set_option maxRecDepth 100000 in
theorem read_any (w : World) (nb lb N : Nat) (Gl Gb : List Nat) (A : Option Addr) (m c : Nat) (v0 : Value) (l : List CallD) (bs : List UInt8)
    (hn : Blk w nb 3 #[.int .i64 N]) (hlb : Blk w lb 22 #[v0]) (hl : ArrOf w Gl 3 (CallDec Gl) v0 l) (hN : N ≤ l.length) (hN4 : N ≤ 40)
    (hb : RdB w Gb (.slice A m c) bs) (hm : m ≤ 140737488355327) (hraw : ∀ x ∈ l, x.raw.length ≤ 140737488355327) (hGl : ∀ k ∈ Gl, k < w.heap.size) :
    Calls Try.prog 40 #[.slice A m c, .pointer (some ⟨nb, 0, none⟩), .pointer (some ⟨lb, 0, none⟩)] w fun e w' =>
      ∃ ok : Bool, e = .returned (.tuple #[.bool ok, .int .i64 (endOf (rds (l.take N) bs 0).1 (rds (l.take N) bs 0).2)]) ∧ (bs = encs (l.take N) → ok = true) ∧ Kept [] w w' := by
  obtain ⟨Al, ml, cl, rfl, h1, h2, h3, h4, h5⟩ := hl
  have hb1 := hb.len
  have Hrd := Lib.hid hb.rd
  have H1 := Lib.hid h1
  have H5 := Lib.hid h5
  have Hb1 := Lib.hid hb1.1
  have Hb2 := Lib.hid hb1.2.2.2
  have Hn := Lib.hid hn
  have Hlb := Lib.hid hlb
  have Hraw := Lib.hid hraw
  have HGl := Lib.hid hGl
  have hnc := hn.cell 0
  simp only [List.getElem?_toArray, List.getElem?_cons_zero] at hnc
  clear h1 h4 h5 hb hb1 hn hlb hraw hGl
  unfold maxLen at h3
  have hNm : N ≤ ml := by rw [H1.out] at hN; exact hN
  go_enter Try.func40, Try.ntmps40
  go_wp2_with fail
  refine (NewReader_any w A m c bs Hrd.out Hb1.out Hb2.out (by omega)).mono ?_
  rintro e w1 ⟨rb, G, rfl, hr, hk1, hrb, hG⟩
  have hnc1 := (Hn.out.kept hk1 (by simp)).cell 0
  simp only [List.getElem?_toArray, List.getElem?_cons_zero] at hnc1
  have Hr := Lib.hid hr
  have Hk1 := Lib.hid hk1
  clear hr hk1 hG hnc
  go_wp2
  go_loopg [7, 13] N (fun g o i wr => ∃ k : Nat, k ≤ N ∧ g = N - k ∧ i = .int .i64 k ∧ (∃ ok : Bool, o = .bool ok ∧ (bs = encs (l.take N) → ok = true)) ∧ Rdr wr rb G (rds (l.take k) bs 0).1 (rds (l.take k) bs 0).2 ∧ Kept [] w wr)
  case atStart => exact ⟨0, by omega, by omega, rfl, ⟨true, rfl, fun _ => rfl⟩, by simpa [rds] using Hr.out, Hk1.out⟩
  case round =>
    obtain ⟨k, hk, rfl, rfl, ⟨okb, rfl, hok⟩, hl, hkr⟩ := hrel
    have Hok := Lib.hid hok
    have Hl := Lib.hid hl
    have Hkr := Lib.hid hkr
    clear hok hl hkr
    by_cases hlt : k < N
    · obtain ⟨g, o, rfl, hg1, hg2, hg3⟩ := H5.out (by rintro rfl; have := H1.out; simp at this; omega)
      have hck : l[k]? = some (l[k]'(by rw [H1.out]; omega)) := List.getElem?_eq_getElem _
      obtain ⟨cs, hcs, ⟨rv, rfl, hrd, hn0, hn1⟩, hcell⟩ := hg3 k _ hck
      have hrl := Hraw.out _ (List.getElem_mem (by rw [H1.out]; omega : k < l.length))
      generalize (l[k]'(by rw [H1.out]; omega)) = cc at *
      have Hck := Lib.hid hck
      have hc0 := (Hkr.out.cell (p := ⟨g, o + (k * 3 + 0), none⟩) hg2 (by simp)).trans (hcell 0 (by omega))
      have hc1 := (Hkr.out.cell (p := ⟨g, o + (k * 3 + 1), none⟩) hg2 (by simp)).trans (hcell 1 (by omega))
      have hc2 := (Hkr.out.cell (p := ⟨g, o + (k * 3 + 2), none⟩) hg2 (by simp)).trans (hcell 2 (by omega))
      have hlc := (Hlb.out.kept Hkr.out (by simp)).cell 0
      simp only [List.getElem?_cons_zero, List.getElem?_cons_succ, Nat.add_zero, List.getElem?_toArray] at hc0 hc1 hc2 hlc
      rw [← Nat.add_assoc] at hc1 hc2
      have hgw : g < wr.heap.size := Nat.lt_of_lt_of_le hg2 Hkr.out.size
      obtain ⟨rA, rm, rc, rfl, hrm, -, -, -, -⟩ := id hrd
      have hrd2 := hrd.kept Hkr.out (by simp)
      have Hrd2 : Hid (∀ (cs : Array Value), RdB (wr.alloc (.cells cs 28)) Gl (.slice rA rm rc) cc.raw) := fun cs => hrd2.kept (S := []) ((Kept.refl _ _).alloc _) (by simp)
      have Hst : Hid (∀ (cs : Array Value), Rdr (wr.alloc (.cells cs 28)) rb G (rds (l.take k) bs 0).1 (rds (l.take k) bs 0).2) := fun cs => Hl.out.kept (S := []) ((Kept.refl _ _).alloc _) (by simp) (by simp)
      have hrbl : rb < wr.heap.size := by obtain ⟨_, q, _⟩ := Hl.out.ex; exact q.lt
      have Hcb : Hid (∀ (cs : Array Value) w3, Kept [rb] (wr.alloc (.cells cs 28)) w3 → Blk w3 wr.heap.size 28 cs) := fun cs w3 hk3 => (Blk.new wr _ cs).kept hk3 (by simp; omega)
      have Hfull : Hid (bs = encs (l.take N) → (tk (rds (l.take k) bs 0).1 (rds (l.take k) bs 0).2 (widC cc)).1 = encC cc) := fun h => by rw [h]; exact full_at hlt hck
      have Hsn : Hid (rds (l.take (k + 1)) bs 0 = ((tk (rds (l.take k) bs 0).1 (rds (l.take k) bs 0).2 (widC cc)).2.1, (tk (rds (l.take k) bs 0).1 (rds (l.take k) bs 0).2 (widC cc)).2.2)) := by
        obtain ⟨hkl, he⟩ := List.getElem?_eq_some_iff.1 hck
        rw [List.take_succ_eq_append_getElem hkl, he, rds_snoc]
        exact rfl
      have hbl : (rds (l.take k) bs 0).1.length ≤ 140737488355328 := Nat.le_trans (rds_len _ _ _) (by have := Hb1.out; omega)
      generalize rds (l.take k) bs 0 = st at *
      clear hcell hrd hg3 hck hcs hrd2 hrm
      have Hend : Hid (∀ (ok : Bool) (w4 : World), (bs = encs (l.take N) → ok = true) → Rdr w4 rb G (tk st.1 st.2 (widC cc)).2.1 (tk st.1 st.2 (widC cc)).2.2 → Kept [] w w4 → (∃ ok' : Bool, Value.bool ok = .bool ok' ∧ (bs = encs (l.take N) → ok' = true)) ∧ Rdr w4 rb G (rds (l.take (k + 1)) bs 0).1 (rds (l.take (k + 1)) bs 0).2 ∧ Kept [] w w4) := by
        intro ok w4 h1 h2 h3
        rw [Hsn.out]
        exact ⟨⟨ok, rfl, h1⟩, h2, h3⟩
      go_upto_block 1 with fail
      go_cut [7] (fun s7 wx => ∃ ok : Bool, s7 = .bool ok ∧ (bs = encs (l.take N) → ok = true) ∧ Rdr wx rb G (tk st.1 st.2 (widC cc)).2.1 (tk st.1 st.2 (widC cc)).2.2 ∧ Kept [] w wx)
      case rest =>
        obtain ⟨ok, rfl, q1, q2, q3⟩ := hcut
        have Hq := Lib.hid (Hend.out ok _ q1 q2 q3)
        clear q1 q2 q3
        go_wp2
        go_roundg (N - (k + 1))
        case measure => omega
        case rel => exact ⟨k + 1, by omega, rfl, by go_num, Hq.out⟩
      case first =>
        clear Hend Hsn
        by_cases t0 : cc.to = 0
        · have hw : widC cc = 1 := by simp [widC, t0]
          have he : encC cc = beK (nat64 cc.n) 1 1 := by simp [encC, t0]
          have Hw : Hid (((widC cc : Nat) : Int) = 1) := by rw [hw]; rfl
          simp only [hw, show ((1 : Nat) : Int) = 1 from rfl] at Hfull
          rw [he] at Hfull
          have te0 : (cc.to == 0) = true := by simpa using t0
          clear hw he t0
          have hmt : bs = encs (l.take N) → (((num (tk st.1 st.2 1).1 : Nat) : Int) == IntKind.i64.wrap (IntKind.u8.wrap cc.n)) = true := fun h => by
            have h1 := IntWalk.i64_in (IntKind.u8.wrap cc.n) (by rw [IntKind.wrap_u8]; omega)
            have hc := nat64_cast cc.n
            rw [Hfull.out h, num_beK, beq_iff_eq, h1, IntKind.wrap_u8]
            omega
          have Hmt := Lib.hid hmt
          have Hst' := Lib.hid (RU8_any _ rb G _ _ (Hst.out #[.int .i64 cc.to, .int .i64 cc.n, .slice rA rm rc]).drew)
          have hc9 : (wr.alloc (.cells #[.int .i64 cc.to, .int .i64 cc.n, .slice rA rm rc] 28)).cell? ⟨wr.heap.size, 1, none⟩ = some (.int .i64 cc.n) := by simp
          clear hmt
          generalize (num (tk st.1 st.2 1).1 : Nat) = y at Hmt Hst'
          cases hm : ((y : Int) == IntKind.i64.wrap (IntKind.u8.wrap cc.n))
          all_goals
            go_wp2
            first | (go_region_with (first
                | (go_at_call 27
                   refine Hst'.out.mono ?_
                   rintro e3 w3 ⟨rfl, hr3, hk3⟩
                   have hkk := (Kept.refl [rb] _).drew.trans hk3 (by simp)
                   have hd3 := (Hcb.out _ _ hkk).cell 1
                   simp only [List.getElem?_cons_zero, List.getElem?_cons_succ, List.getElem?_toArray] at hd3
                   have Hr3 := Lib.hid hr3
                   have Hk3 := Lib.hid ((Hkr.out.alloc _).trans hkk (by simpa using hrb))
                   clear hr3 hk3 hkk))) | fail
            all_goals (go_wp2_with fail; go_meet)
            all_goals first | exact ⟨okb, rfl, Hok.out, (by rw [Hw.out]; exact Hr3.out), Hk3.out⟩ | exact ⟨_, rfl, fun h => (by have h2 := Hmt.out h; rw [hm] at h2; cases h2), (by rw [Hw.out]; exact Hr3.out), Hk3.out⟩
        · skip
          by_cases t1 : cc.to = 1
          · have hw : widC cc = 2 := by simp [widC, t0, t1]
            have he : encC cc = beK (nat64 cc.n) 2 2 := by simp [encC, t0, t1]
            have Hw : Hid (((widC cc : Nat) : Int) = 2) := by rw [hw]; rfl
            simp only [hw, show ((2 : Nat) : Int) = 2 from rfl] at Hfull
            rw [he] at Hfull
            have te0 : (cc.to == 0) = false := by simpa using t0
            have te1 : (cc.to == 1) = true := by simpa using t1
            clear hw he t0 t1
            have hmt : bs = encs (l.take N) → (((num (tk st.1 st.2 2).1 : Nat) : Int) == IntKind.i64.wrap (IntKind.u16.wrap cc.n)) = true := fun h => by
              have h1 := IntWalk.i64_in (IntKind.u16.wrap cc.n) (by rw [IntKind.wrap_u16]; omega)
              have hc := nat64_cast cc.n
              rw [Hfull.out h, num_beK, beq_iff_eq, h1, IntKind.wrap_u16]
              omega
            have Hmt := Lib.hid hmt
            have Hst' := Lib.hid (RU16_any _ rb G _ _ (Hst.out #[.int .i64 cc.to, .int .i64 cc.n, .slice rA rm rc]).drew)
            have hc9 : (wr.alloc (.cells #[.int .i64 cc.to, .int .i64 cc.n, .slice rA rm rc] 28)).cell? ⟨wr.heap.size, 1, none⟩ = some (.int .i64 cc.n) := by simp
            clear hmt
            generalize (num (tk st.1 st.2 2).1 : Nat) = y at Hmt Hst'
            cases hm : ((y : Int) == IntKind.i64.wrap (IntKind.u16.wrap cc.n))
            all_goals
              go_wp2
              first | (go_region_with (first
                  | (go_at_call 29
                     refine Hst'.out.mono ?_
                     rintro e3 w3 ⟨rfl, hr3, hk3⟩
                     have hkk := (Kept.refl [rb] _).drew.trans hk3 (by simp)
                     have hd3 := (Hcb.out _ _ hkk).cell 1
                     simp only [List.getElem?_cons_zero, List.getElem?_cons_succ, List.getElem?_toArray] at hd3
                     have Hr3 := Lib.hid hr3
                     have Hk3 := Lib.hid ((Hkr.out.alloc _).trans hkk (by simpa using hrb))
                     clear hr3 hk3 hkk))) | fail
              all_goals (go_wp2_with fail; go_meet)
              all_goals first | exact ⟨okb, rfl, Hok.out, (by rw [Hw.out]; exact Hr3.out), Hk3.out⟩ | exact ⟨_, rfl, fun h => (by have h2 := Hmt.out h; rw [hm] at h2; cases h2), (by rw [Hw.out]; exact Hr3.out), Hk3.out⟩
          · skip
            by_cases t2 : cc.to = 2
            · have hw : widC cc = 4 := by simp [widC, t0, t1, t2]
              have he : encC cc = beK (nat64 cc.n % 4294967296) 4 4 := by simp [encC, t0, t1, t2]
              have Hw : Hid (((widC cc : Nat) : Int) = 4) := by rw [hw]; rfl
              simp only [hw, show ((4 : Nat) : Int) = 4 from rfl] at Hfull
              rw [he] at Hfull
              have te0 : (cc.to == 0) = false := by simpa using t0
              have te1 : (cc.to == 1) = false := by simpa using t1
              have te2 : (cc.to == 2) = true := by simpa using t2
              clear hw he t0 t1 t2
              have hmt : bs = encs (l.take N) → (((num (tk st.1 st.2 4).1 : Nat) : Int) == IntKind.u32.wrap cc.n) = true := fun h => by
                have hc := nat64_cast cc.n
                rw [Hfull.out h, num_beK, beq_iff_eq, IntKind.wrap_u32]
                omega
              have Hmt := Lib.hid hmt
              have Hst' := Lib.hid (RU32_any _ rb G _ _ (Hst.out #[.int .i64 cc.to, .int .i64 cc.n, .slice rA rm rc]).drew)
              have hc9 : (wr.alloc (.cells #[.int .i64 cc.to, .int .i64 cc.n, .slice rA rm rc] 28)).cell? ⟨wr.heap.size, 1, none⟩ = some (.int .i64 cc.n) := by simp
              clear hmt
              generalize (num (tk st.1 st.2 4).1 : Nat) = y at Hmt Hst'
              cases hm : ((y : Int) == IntKind.u32.wrap cc.n)
              all_goals
                go_wp2
                first | (go_region_with (first
                    | (go_at_call 31
                       refine Hst'.out.mono ?_
                       rintro e3 w3 ⟨rfl, hr3, hk3⟩
                       have hkk := (Kept.refl [rb] _).drew.trans hk3 (by simp)
                       have hd3 := (Hcb.out _ _ hkk).cell 1
                       simp only [List.getElem?_cons_zero, List.getElem?_cons_succ, List.getElem?_toArray] at hd3
                       have Hr3 := Lib.hid hr3
                       have Hk3 := Lib.hid ((Hkr.out.alloc _).trans hkk (by simpa using hrb))
                       clear hr3 hk3 hkk))) | fail
                all_goals (go_wp2_with fail; go_meet)
                all_goals first | exact ⟨okb, rfl, Hok.out, (by rw [Hw.out]; exact Hr3.out), Hk3.out⟩ | exact ⟨_, rfl, fun h => (by have h2 := Hmt.out h; rw [hm] at h2; cases h2), (by rw [Hw.out]; exact Hr3.out), Hk3.out⟩
            · skip
              by_cases t3 : cc.to = 3
              · have hw : widC cc = 8 := by simp [widC, t0, t1, t2, t3]
                have he : encC cc = beK (nat64 cc.n) 8 8 := by simp [encC, t0, t1, t2, t3]
                have Hw : Hid (((widC cc : Nat) : Int) = 8) := by rw [hw]; rfl
                simp only [hw, show ((8 : Nat) : Int) = 8 from rfl] at Hfull
                rw [he] at Hfull
                have te0 : (cc.to == 0) = false := by simpa using t0
                have te1 : (cc.to == 1) = false := by simpa using t1
                have te2 : (cc.to == 2) = false := by simpa using t2
                have te3 : (cc.to == 3) = true := by simpa using t3
                clear hw he t0 t1 t2 t3
                have hmt : bs = encs (l.take N) → (wrap64 ((num (tk st.1 st.2 8).1 : Nat) : Int) == cc.n) = true := fun h => by
                  have hc := nat64_cast cc.n
                  rw [Hfull.out h, num_beK, beq_iff_eq]
                  unfold wrap64
                  omega
                have Hmt := Lib.hid hmt
                have Hst' := Lib.hid (RI64_any _ rb G _ _ (Hst.out #[.int .i64 cc.to, .int .i64 cc.n, .slice rA rm rc]).drew)
                have hc9 : (wr.alloc (.cells #[.int .i64 cc.to, .int .i64 cc.n, .slice rA rm rc] 28)).cell? ⟨wr.heap.size, 1, none⟩ = some (.int .i64 cc.n) := by simp
                clear hmt
                generalize wrap64 ((num (tk st.1 st.2 8).1 : Nat) : Int) = y at Hmt Hst'
                cases hm : (y == cc.n)
                all_goals
                  go_wp2
                  first | (go_region_with (first
                      | (go_at_call 33
                         refine Hst'.out.mono ?_
                         rintro e3 w3 ⟨rfl, hr3, hk3⟩
                         have hkk := (Kept.refl [rb] _).drew.trans hk3 (by simp)
                         have hd3 := (Hcb.out _ _ hkk).cell 1
                         simp only [List.getElem?_cons_zero, List.getElem?_cons_succ, List.getElem?_toArray] at hd3
                         have Hr3 := Lib.hid hr3
                         have Hk3 := Lib.hid ((Hkr.out.alloc _).trans hkk (by simpa using hrb))
                         clear hr3 hk3 hkk))) | fail
                  all_goals (go_wp2_with fail; go_meet)
                  all_goals first | exact ⟨okb, rfl, Hok.out, (by rw [Hw.out]; exact Hr3.out), Hk3.out⟩ | exact ⟨_, rfl, fun h => (by have h2 := Hmt.out h; rw [hm] at h2; cases h2), (by rw [Hw.out]; exact Hr3.out), Hk3.out⟩
              · skip
                have hw : widC cc = cc.raw.length := by simp [widC, t0, t1, t2, t3]
                have he : encC cc = cc.raw := by simp [encC, t0, t1, t2, t3]
                have Hw : Hid (((widC cc : Nat) : Int) = (cc.raw.length : Int)) := by rw [hw]; rfl
                simp only [hw] at Hfull
                rw [he] at Hfull
                have te0 : (cc.to == 0) = false := by simpa using t0
                have te1 : (cc.to == 1) = false := by simpa using t1
                have te2 : (cc.to == 2) = false := by simpa using t2
                have te3 : (cc.to == 3) = false := by simpa using t3
                clear hw he t0 t1 t2 t3
                have hq := Hrd2.out #[.int .i64 cc.to, .int .i64 cc.n, .slice rA rm rc]
                have hrm : cc.raw.length = rm := hq.len.1
                have hc9 : (wr.alloc (.cells #[.int .i64 cc.to, .int .i64 cc.n, .slice rA rm rc] 28)).cell? ⟨wr.heap.size, 2, none⟩ = some (.slice rA rm rc) := by simp
                have hq1 : (convert 24 9 (.slice rA rm rc)).run Try.prog (wr.alloc (.cells #[.int .i64 cc.to, .int .i64 cc.n, .slice rA rm rc] 28)).drew = .ok (.string (strOf cc.raw)) (wr.alloc (.cells #[.int .i64 cc.to, .int .i64 cc.n, .slice rA rm rc] 28)).drew := run_str (hq.kept (S := []) (Kept.refl _ _).drew (by simp))
                have Hq := Lib.hid hq
                skip
                have Hst' := Lib.hid (RRaw_any _ rb G _ _ (cc.raw.length : Nat) (Hst.out #[.int .i64 cc.to, .int .i64 cc.n, .slice rA rm rc]).drew hbl)
                rw [hrm] at Hst' Hfull Hw
                clear hrm hq
                generalize htk : tk st.1 st.2 (rm : Int) = q at *
                have Htk := Lib.hid htk
                clear htk
                have hts := strOf_toList
                cases hm : (q.1 == cc.raw)
                all_goals
                  go_wp2
                  first | (go_region_with (first
                      | (go_at_call 35
                         refine Hst'.out.mono ?_
                         rintro e3 w3 ⟨v3, rfl, ho3, hn3, hr3, hk3⟩
                         obtain ⟨A3, c3, rfl, _, _⟩ := ho3.form
                         have hkk := (Kept.refl [rb] _).drew.trans hk3 (by simp)
                         have hd3 := (Hcb.out _ _ hkk).cell 2
                         simp only [List.getElem?_cons_zero, List.getElem?_cons_succ, List.getElem?_toArray] at hd3
                         have hq3 := run_str (RdB.of_own ho3)
                         have hq4 := run_str (Hq.out.kept hkk (fun k hk hm => by simp at hm; have := HGl.out k hk; omega))
                         have Hr3 := Lib.hid hr3
                         have Hk3 := Lib.hid ((Hkr.out.alloc _).trans hkk (by simpa using hrb))
                         clear hr3 hk3 hkk ho3 hn3))) | fail
                  all_goals (go_wp2_with fail; go_meet)
                  all_goals first | exact ⟨okb, rfl, Hok.out, (by rw [Hw.out, Htk.out]; exact Hr3.out), Hk3.out⟩ | exact ⟨_, rfl, fun h => (by rw [Hfull.out h] at hm; simp at hm), (by rw [Hw.out, Htk.out]; exact Hr3.out), Hk3.out⟩
    · obtain rfl : k = N := by omega
      go_wp2_with (go_at_call 38; refine (End_any _ _ _ _ _ Hl.out).mono ?_; rintro e3 w3 ⟨rfl, rfl⟩)
      go_ret2
      exact ⟨okb, rfl, Hok.out, Hkr.out⟩
end Go.Proofs.Yticjcmjodnedjaa
