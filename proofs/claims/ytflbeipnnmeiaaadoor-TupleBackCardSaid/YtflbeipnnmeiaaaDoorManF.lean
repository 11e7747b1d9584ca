
/-
  The contracts of manifest.Name and manifest.Number.
-/
import Derived.Test.YtflbeipnnmeiaaaDoorManM
import Derived.Test.YtflbeipnnmeiaaaDoorStr
import Derived.Test.YtflbeipnnmeiaaaDoorBlk
import Derived.Laws.MakeOwn
import Derived.IntWalk
import Derived.Outline
namespace Go.Proofs.YtflbeipnnmeiaaaDoor
open Go.RowKit Go.ChangeShapes Go.WideShapes Go.Deep
set_option linter.unusedVariables false
set_option maxRecDepth 100000

def digB (n k : Nat) : UInt8 := UInt8.ofNat (48 + n / 10 ^ k % 10)
def nameL (n : Nat) : List UInt8 := [115, digB n 5, digB n 4, digB n 3, digB n 2, digB n 1, digB n 0]
/-- a segment's name -/
def nameF (n : Int) : List UInt8 := if 1 ≤ n ∧ n < 1000000 then nameL n.toNat else []
def cz (n k j : Nat) : Value := if j < k then .int .u8 ((digB n j).toNat : Nat) else .int .u8 0
def nameC (n k : Nat) : Array Value := #[.int .u8 115, cz n k 5, cz n k 4, cz n k 3, cz n k 2, cz n k 1, cz n k 0]
theorem digB_nat (n k : Nat) : (digB n k).toNat = 48 + n / 10 ^ k % 10 := by
  unfold digB
  rw [UInt8.toNat_ofNat', Nat.mod_eq_of_lt (by omega)]
theorem RdB.of_blk {w : World} {g : Nat} {bs : List UInt8} {cs : Array Value} {m : Nat} (h : Blk w g 5 cs) (hc : cs.toList = u8s bs) (hm : bs.length = m) (hx : m ≤ maxLen) : RdB w [g] (.slice (some ⟨g, 0, none⟩) m m) bs := by
  refine ⟨_, _, _, rfl, hm, Nat.le_refl _, hx, fun _ => ⟨g, 0, rfl, fun j u hu => ?_⟩, fun k hk _ => by simpa [addrOf] using hk, fun h => by cases h⟩
  rw [Nat.zero_add, h.cell j, ← hu, ← hc]; simp
theorem mk7 (w : World) : (Instr.makeSlice 32 (.int .i64 7) (.int .i64 7)).run Tryd.prog w = .ok (.slice (some ⟨w.heap.size, 0, none⟩) 7 7) (w.alloc (.cells #[.int .u8 0, .int .u8 0, .int .u8 0, .int .u8 0, .int .u8 0, .int .u8 0, .int .u8 0] 5)) := by kernel_rfl
set_option maxHeartbeats 1600000 in
set_option maxRecDepth 100000 in
theorem Name_ok (w : World) (n : Nat) (h1 : 1 ≤ n) (h2 : n < 1000000) :
    Calls Tryd.prog 18 #[.int .i64 (n : Int)] w fun e w' => e = .returned (.string (strOf (nameL n))) ∧ Kept [] w w' := by
  have hmk := mk7
  have e1 : ¬ (n : Int) < 1 := by omega
  have e2 : ¬ (1000000 : Int) ≤ (n : Int) := by omega
  go_enter Tryd.func18, Tryd.ntmps18
  go_wp2
  go_loopg [0, 4] (6 : Nat) (fun g s i wr => ∃ k : Nat, k ≤ 6 ∧ g = 6 - k ∧ s = .int .i64 ((n / 10 ^ k : Nat) : Int) ∧ i = .int .i64 ((6 - k : Nat) : Int) ∧ Blk wr w.heap.size 5 (nameC n k) ∧ Kept [] w wr)
  case atStart => exact ⟨0, by omega, by omega, by simp, rfl, Blk.new _ _ _, by (repeat (first | exact Kept.refl _ _ | apply Kept.alloc | apply Kept.drew))⟩
  case round =>
    obtain ⟨k, hk, rfl, rfl, rfl, hM, hK⟩ := hrel
    clear hmk
    have M := Lib.hid hM
    have K := Lib.hid hK
    have hgl := hM.lt
    clear hM hK
    obtain ⟨q, hq⟩ : ∃ q, n / 10 ^ k = q := ⟨_, rfl⟩
    have hd := digB_nat n k
    rw [hq] at hd ⊢
    have hq1 : n / 10 ^ (k + 1) = q / 10 := by rw [Nat.pow_succ, ← Nat.div_div_eq_div_mul, hq]
    have hqn : q ≤ n := by rw [← hq]; exact Nat.div_le_self _ _
    have HD := Lib.hid hd
    have HQ1 := Lib.hid hq1
    clear hq hd hq1
    by_cases hlt : k < 6
    · have w1 : IntKind.u8.wrap (48 + (q : Int) % 10) = 48 + (q : Int) % 10 := IntWalk.u8_in _ (by omega)
      have kc : k = 0 ∨ k = 1 ∨ k = 2 ∨ k = 3 ∨ k = 4 ∨ k = 5 := by omega
      rcases kc with rfl | rfl | rfl | rfl | rfl | rfl
      · have hcM := M.out.cell
        have hfM := M.out.frozen
        unfold nameC at hcM
        go_wp2
        go_roundg (6 - (0 + 1))
        case measure => omega
        case rel =>
          refine ⟨0 + 1, by omega, rfl, by rw [HQ1.out]; go_num, by rfl, ?_, K.out.setCell (.inr (Nat.le_refl _)) _⟩
          have hv : (48 + (q : Int) % 10) = (((digB n 0).toNat : Nat) : Int) := by rw [HD.out]; omega
          rw [hv]
          simpa [nameC, cz] using M.out.set 6 (.int .u8 (((digB n 0).toNat : Nat) : Int))
      · have hcM := M.out.cell
        have hfM := M.out.frozen
        unfold nameC at hcM
        go_wp2
        go_roundg (6 - (1 + 1))
        case measure => omega
        case rel =>
          refine ⟨1 + 1, by omega, rfl, by rw [HQ1.out]; go_num, by rfl, ?_, K.out.setCell (.inr (Nat.le_refl _)) _⟩
          have hv : (48 + (q : Int) % 10) = (((digB n 1).toNat : Nat) : Int) := by rw [HD.out]; omega
          rw [hv]
          simpa [nameC, cz] using M.out.set 5 (.int .u8 (((digB n 1).toNat : Nat) : Int))
      · have hcM := M.out.cell
        have hfM := M.out.frozen
        unfold nameC at hcM
        go_wp2
        go_roundg (6 - (2 + 1))
        case measure => omega
        case rel =>
          refine ⟨2 + 1, by omega, rfl, by rw [HQ1.out]; go_num, by rfl, ?_, K.out.setCell (.inr (Nat.le_refl _)) _⟩
          have hv : (48 + (q : Int) % 10) = (((digB n 2).toNat : Nat) : Int) := by rw [HD.out]; omega
          rw [hv]
          simpa [nameC, cz] using M.out.set 4 (.int .u8 (((digB n 2).toNat : Nat) : Int))
      · have hcM := M.out.cell
        have hfM := M.out.frozen
        unfold nameC at hcM
        go_wp2
        go_roundg (6 - (3 + 1))
        case measure => omega
        case rel =>
          refine ⟨3 + 1, by omega, rfl, by rw [HQ1.out]; go_num, by rfl, ?_, K.out.setCell (.inr (Nat.le_refl _)) _⟩
          have hv : (48 + (q : Int) % 10) = (((digB n 3).toNat : Nat) : Int) := by rw [HD.out]; omega
          rw [hv]
          simpa [nameC, cz] using M.out.set 3 (.int .u8 (((digB n 3).toNat : Nat) : Int))
      · have hcM := M.out.cell
        have hfM := M.out.frozen
        unfold nameC at hcM
        go_wp2
        go_roundg (6 - (4 + 1))
        case measure => omega
        case rel =>
          refine ⟨4 + 1, by omega, rfl, by rw [HQ1.out]; go_num, by rfl, ?_, K.out.setCell (.inr (Nat.le_refl _)) _⟩
          have hv : (48 + (q : Int) % 10) = (((digB n 4).toNat : Nat) : Int) := by rw [HD.out]; omega
          rw [hv]
          simpa [nameC, cz] using M.out.set 2 (.int .u8 (((digB n 4).toNat : Nat) : Int))
      · have hcM := M.out.cell
        have hfM := M.out.frozen
        unfold nameC at hcM
        go_wp2
        go_roundg (6 - (5 + 1))
        case measure => omega
        case rel =>
          refine ⟨5 + 1, by omega, rfl, by rw [HQ1.out]; go_num, by rfl, ?_, K.out.setCell (.inr (Nat.le_refl _)) _⟩
          have hv : (48 + (q : Int) % 10) = (((digB n 5).toNat : Nat) : Int) := by rw [HD.out]; omega
          rw [hv]
          simpa [nameC, cz] using M.out.set 1 (.int .u8 (((digB n 5).toNat : Nat) : Int))
    · obtain rfl : k = 6 := by omega
      have hr := RdB.of_blk (bs := nameL n) (m := 7) M.out (by simp [nameC, cz, nameL, u8s, u8v]) rfl (by unfold maxLen; omega)
      have q1 := run_str hr
      clear hr
      go_wp2
      go_ret
      exact ⟨rfl, K.out⟩
theorem Name_bad (w : World) (n : Int) (h : ¬ (1 ≤ n ∧ n < 1000000)) :
    Calls Tryd.prog 18 #[.int .i64 n] w fun e w' => e = .returned (.string (strOf [])) ∧ Kept [] w w' := by
  have h' : n < 1 ∨ (1 ≤ n ∧ 1000000 ≤ n) := by omega
  clear h
  rcases h' with h | ⟨h, h'⟩
  all_goals
    go_enter Tryd.func18, Tryd.ntmps18
    go_wp2
    go_ret
    exact ⟨rfl, Kept.refl _ _⟩
theorem Name_any (w : World) (n : Int) : Calls Tryd.prog 18 #[.int .i64 n] w fun e w' => e = .returned (.string (strOf (nameF n))) ∧ Kept [] w w' := by
  unfold nameF
  by_cases h : 1 ≤ n ∧ n < 1000000
  · rw [if_pos h]
    obtain ⟨m, rfl⟩ : ∃ m : Nat, n = m := ⟨n.toNat, by omega⟩
    exact Name_ok w m (by omega) (by omega)
  · rw [if_neg h]; exact Name_bad w n h

def isD (c : UInt8) : Bool := decide (48 ≤ c.toNat) && decide (c.toNat ≤ 57)
def okD (l : List UInt8) : Bool := l.all isD
def numV (l : List UInt8) : Nat := l.foldl (fun n c => n * 10 + (c.toNat - 48)) 0
def numberF (l : List UInt8) : Int × Bool := if l.length = 7 ∧ l.head? = some 115 ∧ okD (l.drop 1) = true then ((numV (l.drop 1) : Nat), decide (0 < numV (l.drop 1))) else (0, false)
theorem numV_snoc (l : List UInt8) (c : UInt8) : numV (l ++ [c]) = numV l * 10 + (c.toNat - 48) := by simp [numV]
theorem okD_snoc (l : List UInt8) (c : UInt8) : okD (l ++ [c]) = (okD l && isD c) := by simp [okD]
theorem numV_lt : ∀ (l : List UInt8), okD l = true → numV l < 10 ^ l.length := by
  have h : ∀ m : List UInt8, okD m.reverse = true → numV m.reverse < 10 ^ m.length := by
    intro m
    induction m with
    | nil => intro _; simp [numV]
    | cons c m ih =>
      intro hm
      rw [List.reverse_cons, okD_snoc, Bool.and_eq_true] at hm
      have h1 := ih hm.1
      have h2 := hm.2
      simp only [isD, Bool.and_eq_true, decide_eq_true_eq] at h2
      rw [List.reverse_cons, numV_snoc, List.length_cons, Nat.pow_succ]
      omega
  intro l hl
  have := h l.reverse (by simpa using hl)
  simpa using this
theorem numV_le6 {l : List UInt8} (h : okD l = true) (hl : l.length ≤ 6) : numV l < 1000000 :=
  Nat.lt_of_lt_of_le (numV_lt l h) (Nat.le_trans (Nat.pow_le_pow_right (by omega) hl) (by decide))
set_option maxHeartbeats 1600000 in
theorem Number_any (w : World) (s : ByteArray) (hs : s.size ≤ maxLen) :
    Calls Tryd.prog 16 #[.string s] w fun e w' => e = .returned (.tuple #[.int .i64 (numberF s.data.toList).1, .bool (numberF s.data.toList).2]) ∧ w = w' := by
  unfold maxLen at hs
  have hsz : s.data.toList.length = s.size := by simp
  by_cases h7 : s.size = 7
  · have hs0 : 0 < s.size := by omega
    have hg : ∀ (i : Nat) (h : i < s.size), s.data.toList[i]? = some s[i] := fun i h => by
      rw [List.getElem?_eq_getElem (by simpa using h)]; rfl
    have h0 := hg 0 hs0
    by_cases hc : s[0] = 115
    · have e0 : ((s[0].toNat : Nat) : Int) = 115 := by rw [hc]; rfl
      have hhd : s.data.toList.head? = some 115 := by rw [List.head?_eq_getElem?, h0, hc]
      obtain ⟨l, hl⟩ : ∃ l, s.data.toList.drop 1 = l := ⟨_, rfl⟩
      have hll : l.length = 6 := by rw [← hl, List.length_drop]; omega
      have hget : ∀ (i : Nat) (h : i + 1 < s.size), l[i]? = some s[i + 1] := fun i h => by
        rw [← hl, List.getElem?_drop, Nat.add_comm 1 i, hg _ h]
      have HN : Hid ((okD l = true → numberF s.data.toList = (((numV l : Nat) : Int), decide (0 < numV l))) ∧ (okD l = false → numberF s.data.toList = (0, false))) := Lib.hid (by
        unfold numberF
        rw [hl]
        constructor
        · intro h; rw [if_pos ⟨by omega, hhd, h⟩]
        · intro h; rw [if_neg (by rw [h]; simp)])
      have HG := Lib.hid hget
      have HL := Lib.hid hll
      have H7 := Lib.hid h7
      clear hg h0 hhd hl hget hll hc hsz hs
      go_enter Tryd.func16, Tryd.ntmps16
      go_wp2
      go_loop [4, 15] (fun n i => ∃ k : Nat, k ≤ 6 ∧ i = .int .i64 k ∧ n = .int .i64 ((numV (l.take k) : Nat) : Int) ∧ okD (l.take k) = true) (fun _ i => 6 - (intOf i).toNat)
      case atStart => exact ⟨0, by omega, rfl, by simp [numV], by simp [okD]⟩
      case round =>
        obtain ⟨k, hk, rfl, rfl, hok⟩ := hrel
        have hv := numV_le6 hok (by have := HL.out; rw [List.length_take]; omega)
        obtain ⟨nv, hnv⟩ : ∃ nv, numV (l.take k) = nv := ⟨_, rfl⟩
        rw [hnv] at hv ⊢
        have HNV := Lib.hid hnv
        have HOK := Lib.hid hok
        clear hnv hok
        by_cases hlt : k < 6
        · have hk1 : k + 1 < s.size := by have := H7.out; omega
          have hgk := Lib.hid (HG.out k hk1)
          obtain ⟨c, hc⟩ : ∃ c, s[k + 1] = c := ⟨_, rfl⟩
          have HC := Lib.hid hc
          have hsn := Lib.hid (show l.take (k + 1) = l.take k ++ [c] by
            rw [List.take_add_one, hgk.out, HC.out]; rfl)
          have hcb : c.toNat < 256 := c.toNat_lt
          have hway : (c.toNat < 48) ∨ (48 ≤ c.toNat ∧ 57 < c.toNat) ∨ (48 ≤ c.toNat ∧ c.toNat ≤ 57) := by omega
          rcases hway with hw | ⟨hw, hw2⟩ | ⟨hw, hw2⟩
          · have hb : okD l = false := by
              cases h : okD l with
              | false => rfl
              | true =>
                have := List.all_eq_true.1 h c (List.mem_of_getElem? (hgk.out.trans (by rw [HC.out])))
                simp [isD] at this; omega
            have HZ := Lib.hid (HN.out.2 hb)
            have i1 : ((c.toNat : Nat) : Int) < 48 := by omega
            clear hb
            go_wp2
            go_ret2
            exact ⟨by rw [HZ.out]; rfl, rfl⟩
          · have hb : okD l = false := by
              cases h : okD l with
              | false => rfl
              | true =>
                have := List.all_eq_true.1 h c (List.mem_of_getElem? (hgk.out.trans (by rw [HC.out])))
                simp [isD] at this; omega
            have HZ := Lib.hid (HN.out.2 hb)
            have i1 : ¬ ((c.toNat : Nat) : Int) < 48 := by omega
            have i2 : (57 : Int) < ((c.toNat : Nat) : Int) := by omega
            clear hb
            go_wp2
            go_ret2
            exact ⟨by rw [HZ.out]; rfl, rfl⟩
          · have i1 : ¬ ((c.toNat : Nat) : Int) < 48 := by omega
            have i2 : ¬ (57 : Int) < ((c.toNat : Nat) : Int) := by omega
            have w1 : IntKind.u8.wrap (((c.toNat : Nat) : Int) - 48) = ((c.toNat : Nat) : Int) - 48 := IntWalk.u8_in _ (by omega)
            go_wp2
            go_round
            case rel =>
              refine ⟨k + 1, by omega, by go_num, ?_, ?_⟩
              · rw [hsn.out, numV_snoc, HNV.out]; congr 1; omega
              · rw [hsn.out, okD_snoc, HOK.out]; simp [isD, hw, hw2]
            case measure => simp [intOf]; omega
        · obtain rfl : k = 6 := by omega
          have ht : l.take 6 = l := List.take_of_length_le (by have := HL.out; omega)
          have HZ := Lib.hid (HN.out.1 (ht ▸ HOK.out))
          have HNV := Lib.hid (show numV l = nv from ht ▸ HNV.out)
          clear ht
          go_wp2
          go_ret2
          refine ⟨?_, rfl⟩
          rw [HZ.out, HNV.out]
          rfl
    · have e0 : ((s[0].toNat : Nat) == (115 : Nat)) = false := by
        rw [beq_eq_false_iff_ne]; intro h; exact hc (UInt8.toNat_inj.1 h)
      have HZ := Lib.hid (show numberF s.data.toList = (0, false) by
        unfold numberF; rw [if_neg]; rintro ⟨-, h, -⟩; rw [List.head?_eq_getElem?, h0] at h; exact hc (Option.some.inj h))
      have e3 : ¬ s[0].toNat = 115 := by simpa using e0
      have e1 : (((s[0].toNat : Nat) : Int) == 115) = false := beq_eq_false_iff_ne.2 (fun h => e3 (by omega))
      have e2 : (((s[0].toNat : Nat) : Int) != 115) = true := by rw [bne, e1]; rfl
      clear hg h0 hsz hs e0 e3
      go_enter Tryd.func16, Tryd.ntmps16
      go_wp2
      go_ret2
      exact ⟨by rw [HZ.out]; rfl, rfl⟩
  · have b7 : ((s.size : Int) == 7) = false := by rw [beq_eq_false_iff_ne]; omega
    have c7 : ((s.size : Int) != 7) = true := by rw [bne_iff_ne]; omega
    have HZ := Lib.hid (show numberF s.data.toList = (0, false) by unfold numberF; rw [if_neg (by omega)])
    clear hsz
    go_enter Tryd.func16, Tryd.ntmps16
    go_wp2
    go_ret2
    exact ⟨by rw [HZ.out]; rfl, rfl⟩
end Go.Proofs.YtflbeipnnmeiaaaDoor
