
/-
  The contract of frame.Take.
-/
import Derived.Test.YtflbeipnnmeiaaaDoorFrameS
import Derived.Test.YtflbeipnnmeiaaaDoorOctS
namespace Go.Proofs.YtflbeipnnmeiaaaDoor
open Go.RowKit
set_option linter.unusedVariables false
set_option maxRecDepth 100000

/-- what bytes begin with, taken apart -/
def takeP (m4 k1 v1 n2 c4 s4 rest : List UInt8) : FrameD × Nat × Int :=
  if m4 ≠ [103, 111, 105, 116] then (default, 0, 3)
  else if num c4 ≠ crc (m4 ++ (k1 ++ (v1 ++ n2))) then (default, 0, 5)
  else if 4096 < num n2 then (default, 0, 4)
  else if rest.length < num n2 then (default, 0, 2)
  else if num s4 ≠ crc (rest.take (num n2)) then (default, 0, 5)
  else (⟨(num k1 : Nat), (num v1 : Nat), rest.take (num n2)⟩, 16 + num n2, 0)
def takeF (bs : List UInt8) : FrameD × Nat × Int :=
  if bs.length < 16 then (default, 0, 2)
  else takeP (bs.take 4) ((bs.drop 4).take 1) ((bs.drop 5).take 1) ((bs.drop 6).take 2) ((bs.drop 8).take 4) ((bs.drop 12).take 4) (bs.drop 16)
theorem take_cut (bs : List UInt8) (a b : Nat) : bs.drop a = (bs.drop a).take b ++ bs.drop (a + b) := by
  rw [← List.drop_drop, List.take_append_drop]
theorem take_parts (bs : List UInt8) (h : 16 ≤ bs.length) : ∃ m4 k1 v1 n2 c4 s4 rest : List UInt8, bs = m4 ++ (k1 ++ (v1 ++ (n2 ++ (c4 ++ (s4 ++ rest))))) ∧ m4.length = 4 ∧ k1.length = 1 ∧ v1.length = 1 ∧ n2.length = 2 ∧ c4.length = 4 ∧ s4.length = 4 ∧ takeF bs = takeP m4 k1 v1 n2 c4 s4 rest := by
  refine ⟨bs.take 4, (bs.drop 4).take 1, (bs.drop 5).take 1, (bs.drop 6).take 2, (bs.drop 8).take 4, (bs.drop 12).take 4, bs.drop 16, ?_, ?_, ?_, ?_, ?_, ?_, ?_, ?_⟩
  · rw [← take_cut bs 12 4, ← take_cut bs 8 4, ← take_cut bs 6 2, ← take_cut bs 5 1, ← take_cut bs 4 1, List.take_append_drop]
  all_goals first | (simp [takeF]; omega) | (simp; omega)
theorem takeF_parts (m4 k1 v1 n2 c4 s4 rest : List UInt8) (h1 : m4.length = 4) (h2 : k1.length = 1) (h3 : v1.length = 1) (h4 : n2.length = 2) (h5 : c4.length = 4) (h6 : s4.length = 4) :
    takeF (m4 ++ (k1 ++ (v1 ++ (n2 ++ (c4 ++ (s4 ++ rest)))))) = takeP m4 k1 v1 n2 c4 s4 rest := by
  obtain ⟨a1, a2, a3, a4, a5, a6, a7, e, l1, l2, l3, l4, l5, l6, ht⟩ := take_parts (m4 ++ (k1 ++ (v1 ++ (n2 ++ (c4 ++ (s4 ++ rest)))))) (by simp; omega)
  rw [ht]
  obtain ⟨q1, e1⟩ := List.append_inj e (by omega)
  obtain ⟨q2, e2⟩ := List.append_inj e1 (by omega)
  obtain ⟨q3, e3⟩ := List.append_inj e2 (by omega)
  obtain ⟨q4, e4⟩ := List.append_inj e3 (by omega)
  obtain ⟨q5, e5⟩ := List.append_inj e4 (by omega)
  obtain ⟨q6, q7⟩ := List.append_inj e5 (by omega)
  rw [q1, q2, q3, q4, q5, q6, q7]

/-- a reader of our own -/
def RV (W : World) (b : Nat) (bs : List UInt8) (w : World) : Prop := ∃ G, Rdr w b G bs 0 ∧ W.heap.size ≤ b ∧ (∀ k ∈ G, W.heap.size ≤ k ∧ k < b) ∧ Kept [] W w
theorem RV.keptW {W w : World} {b : Nat} {bs : List UInt8} (h : RV W b bs w) : Kept [] W w := by obtain ⟨_, _, _, _, h4⟩ := h; exact h4
theorem tk_app (cs rest : List UInt8) (n : Int) (h : (cs.length : Int) = n) : tk (cs ++ rest) 0 n = (cs, rest, 0) := by
  subst h
  have : ¬ ((cs.length : Int) < 0) := by omega
  have h2 : ¬ (((cs ++ rest).length : Int) < cs.length) := by simp; omega
  simp only [tk, ne_eq, not_true_eq_false, false_or, if_neg this, if_neg h2]
  simp
theorem RV.step {W w w' : World} {b : Nat} {G : List Nat} {cs rest : List UInt8} {n : Int} (hn : (cs.length : Int) = n) (hb : W.heap.size ≤ b) (hG : ∀ k ∈ G, W.heap.size ≤ k ∧ k < b) (hk : Kept [] W w)
    (h : Rdr w' b G (tk (cs ++ rest) 0 n).2.1 (tk (cs ++ rest) 0 n).2.2) (hk' : Kept [b] w w') : RV W b rest w' := by
  rw [tk_app cs rest n hn] at h
  exact ⟨G, h, hb, hG, hk.trans hk' (fun i hi => .inr (by simp at hi; omega))⟩
theorem XU8 {W w : World} {b : Nat} {cs rest : List UInt8} (h : RV W b (cs ++ rest) w) (hc : cs.length = 1) :
    Calls Tryd.prog 39 #[.pointer (some ⟨b, 0, none⟩)] w fun en w' => en = .returned (.int .i64 (num cs : Nat)) ∧ RV W b rest w' := by
  obtain ⟨G, h1, h2, h3, h4⟩ := h
  refine (RU8_any w b G _ 0 h1).mono ?_
  rintro en w' ⟨rfl, g1, g2⟩
  exact ⟨by rw [tk_app cs rest 1 (by omega)], RV.step (by omega) h2 h3 h4 g1 g2⟩
theorem XU16 {W w : World} {b : Nat} {cs rest : List UInt8} (h : RV W b (cs ++ rest) w) (hc : cs.length = 2) :
    Calls Tryd.prog 36 #[.pointer (some ⟨b, 0, none⟩)] w fun en w' => en = .returned (.int .i64 (num cs : Nat)) ∧ RV W b rest w' := by
  obtain ⟨G, h1, h2, h3, h4⟩ := h
  refine (RU16_any w b G _ 0 h1).mono ?_
  rintro en w' ⟨rfl, g1, g2⟩
  exact ⟨by rw [tk_app cs rest 2 (by omega)], RV.step (by omega) h2 h3 h4 g1 g2⟩
theorem XU32 {W w : World} {b : Nat} {cs rest : List UInt8} (h : RV W b (cs ++ rest) w) (hc : cs.length = 4) :
    Calls Tryd.prog 35 #[.pointer (some ⟨b, 0, none⟩)] w fun en w' => en = .returned (.int .u32 (num cs : Nat)) ∧ RV W b rest w' := by
  obtain ⟨G, h1, h2, h3, h4⟩ := h
  refine (RU32_any w b G _ 0 h1).mono ?_
  rintro en w' ⟨rfl, g1, g2⟩
  exact ⟨by rw [tk_app cs rest 4 (by omega)], RV.step (by omega) h2 h3 h4 g1 g2⟩
theorem XRaw {W w : World} {b : Nat} {cs rest : List UInt8} (h : RV W b (cs ++ rest) w) (n : Int) (hc : (cs.length : Int) = n) (hl : (cs ++ rest).length ≤ 140737488355328) :
    Calls Tryd.prog 38 #[.pointer (some ⟨b, 0, none⟩), .int .i64 n] w fun en w' => ∃ A m c, en = .returned (.slice A m c) ∧ RdB w' (rowOf (.slice A m c)) (.slice A m c) cs ∧ RV W b rest w' := by
  obtain ⟨G, h1, h2, h3, h4⟩ := h
  refine (RRaw_any w b G _ 0 n h1 hl).mono ?_
  rintro en w' ⟨v, rfl, g1, g2, g3, g4⟩
  rw [tk_app cs rest n hc] at g1
  obtain ⟨A, m, c, rfl⟩ := g1.form'
  exact ⟨A, m, c, rfl, RdB.of_own g1, RV.step hc h2 h3 h4 g3 g4⟩
theorem XNew (w : World) {G : List Nat} {A : Option Addr} {m c : Nat} {bs : List UInt8} (h : RdB w G (.slice A m c) bs) (hl : m ≤ 140737488355328) :
    Calls Tryd.prog 12 #[.slice A m c] w fun e w' => ∃ b, e = .returned (.pointer (some ⟨b, 0, none⟩)) ∧ RV w b bs w' := by
  have hh := h.len
  refine (NewReader_any w A m c bs h.rd hh.1 hh.2.2.2 hl).mono ?_
  rintro e w' ⟨b, G', rfl, g1, g2, g3, g4⟩
  exact ⟨b, rfl, G', g1, g3, g4, g2⟩
theorem mem_addr {A : Option Addr} {k i : Nat} (h : i ∈ addrOf (A.map (·.add k))) : i ∈ addrOf A := by
  cases A with
  | none => simp [addrOf] at h
  | some a =>
    simp only [Option.map_some, addrOf, Addr.add] at h ⊢
    split at h <;> simpa using h
theorem RdB.upto {w : World} {G : List Nat} {A : Option Addr} {m c : Nat} {bs : List UInt8} (h : RdB w G (.slice A m c) bs) (k : Nat) (hk : k ≤ m) : RdB w G (.slice A k c) (bs.take k) := by
  obtain ⟨A', m', c', e, h2, h3, h4, h5, h6, h7⟩ := h
  injection e with e1 e2 e3
  subst e1 e2 e3
  exact ⟨A, k, c, rfl, by rw [List.length_take]; omega, by omega, h4, h5.take k, fun i hi hne => h6 i hi (ne_take hne), fun hA => by have := h7 hA; omega⟩
theorem RdB.drop {w : World} {G : List Nat} {A : Option Addr} {m c : Nat} {bs : List UInt8} (h : RdB w G (.slice A m c) bs) (k : Nat) (hk : k ≤ m) : RdB w G (.slice (A.map (·.add k)) (m - k) (c - k)) (bs.drop k) := by
  obtain ⟨A', m', c', e, h2, h3, h4, h5, h6, h7⟩ := h
  injection e with e1 e2 e3
  subst e1 e2 e3
  exact ⟨_, _, _, rfl, by rw [List.length_drop]; omega, by omega, by omega, h5.drop k, fun i hi hne => h6 i (mem_addr hi) (ne_drop hne), fun hA => by have := h7 (by simpa using hA); omega⟩

set_option maxHeartbeats 3200000 in
theorem Take_any (w : World) (G : List Nat) (A : Option Addr) (m c : Nat) (bs : List UInt8) (h : RdB w G (.slice A m c) bs) :
    Calls Tryd.prog 55 #[.slice A m c] w fun e w' => ∃ v, e = .returned (.tuple #[.agg #[.int .i64 (takeF bs).1.kind, .int .i64 (takeF bs).1.ver, v], .int .i64 (takeF bs).2.1, .int .i64 (takeF bs).2.2]) ∧ New w 5 1 v (takeF bs).1.body.length (u8s (takeF bs).1.body) w' := by
  have hm := h.len
  have H := Lib.hid h
  have Hm := Lib.hid hm.1
  have hcm := hm.2.2.1
  have hmc := hm.2.1
  unfold maxLen at hcm
  clear h hm
  by_cases h16 : m < 16
  · have ht : takeF bs = (default, 0, 2) := by unfold takeF; rw [if_pos (by rw [Hm.out]; exact h16)]
    rw [ht]
    clear ht
    go_enter Tryd.func55, Tryd.ntmps55
    go_wp2
    refine bodyPost_ret (by simp [results, Tryd.results55, go_sem]; rfl) rfl ?_
    exact ⟨_, rfl, Own.nil _ _ _, (Kept.refl _ _).alloc _, by simp [rowOf, Value.ownBlock]⟩
  · have h16' : 16 ≤ m := by omega
    clear h16
    obtain ⟨m4, k1, v1, n2, c4, s4, rest, hbs, l1, l2, l3, l4, l5, l6, ht⟩ := take_parts bs (by rw [Hm.out]; omega)
    rw [ht]
    have hrl : rest.length + 16 = m := by rw [← Hm.out, hbs]; simp; omega
    have Hx : Hid (bs.take 16 = m4 ++ (k1 ++ (v1 ++ (n2 ++ (c4 ++ (s4 ++ [])))))) := by
      rw [hbs, show m4 ++ (k1 ++ (v1 ++ (n2 ++ (c4 ++ (s4 ++ rest))))) = (m4 ++ (k1 ++ (v1 ++ (n2 ++ (c4 ++ (s4 ++ [])))))) ++ rest by simp]
      exact List.take_left' (by simp; omega)
    have Hy : Hid (bs.take 8 = m4 ++ (k1 ++ (v1 ++ n2))) := by
      rw [hbs, show m4 ++ (k1 ++ (v1 ++ (n2 ++ (c4 ++ (s4 ++ rest))))) = (m4 ++ (k1 ++ (v1 ++ n2))) ++ (c4 ++ (s4 ++ rest)) by simp]
      exact List.take_left' (by simp; omega)
    have Hz : Hid (bs.drop 16 = rest) := by
      rw [hbs, show m4 ++ (k1 ++ (v1 ++ (n2 ++ (c4 ++ (s4 ++ rest))))) = (m4 ++ (k1 ++ (v1 ++ (n2 ++ (c4 ++ s4))))) ++ rest by simp]
      exact List.drop_left' (by simp; omega)
    have hn2 : num n2 < 65536 := by have := num_lt n2; rw [l4] at this; omega
    clear hbs ht
    have L1 := Lib.hid l1
    have L2 := Lib.hid l2
    have L3 := Lib.hid l3
    have L4 := Lib.hid l4
    have L5 := Lib.hid l5
    have L6 := Lib.hid l6
    have Hrl := Lib.hid hrl
    clear l1 l2 l3 l4 l5 l6 hrl
    have hts := strOf_toList m4
    have hbl := Blk.new w 91 #[.int .i64 0, .int .i64 0, .slice none 0 0]
    have Hbl := Lib.hid hbl
    clear hbl
    go_enter Tryd.func55, Tryd.ntmps55
    go_wp2_with fail
    have hr16 := (H.out.kept ((Kept.refl [] w).alloc (.cells #[.int .i64 0, .int .i64 0, .slice none 0 0] 91)) (by simp)).upto 16 h16'
    rw [Hx.out] at hr16
    refine (XNew _ hr16 (by omega)).mono ?_
    rintro e w1 ⟨b, rfl, hv1⟩
    have Hv1 := Lib.hid hv1
    clear hr16 hv1
    go_wp2_with (go_at_call 38
                 refine (XRaw Hv1.out 4 (by rw [L1.out]; rfl) (by simp [L1.out, L2.out, L3.out, L4.out, L5.out, L6.out])).mono ?_
                 rintro e w2 ⟨A2, m2, c2, rfl, hr2, hv2⟩
                 have hq2 := run_str hr2
                 have Hv2 := Lib.hid hv2
                 clear hr2 hv2)
    clear hq2
    refine (XU8 Hv2.out L2.out).mono ?_
    rintro e w3 ⟨rfl, hv3⟩
    have Hv3 := Lib.hid hv3
    clear hv3
    go_wp2_with fail
    refine (XU8 Hv3.out L3.out).mono ?_
    rintro e w4 ⟨rfl, hv4⟩
    have Hv4 := Lib.hid hv4
    clear hv4
    go_wp2_with fail
    refine (XU16 Hv4.out L4.out).mono ?_
    rintro e w5 ⟨rfl, hv5⟩
    have Hv5 := Lib.hid hv5
    clear hv5
    go_wp2_with fail
    refine (XU32 Hv5.out L5.out).mono ?_
    rintro e w6 ⟨rfl, hv6⟩
    have Hv6 := Lib.hid hv6
    clear hv6
    go_wp2_with fail
    refine (XU32 Hv6.out L6.out).mono ?_
    rintro e w7 ⟨rfl, hv7⟩
    have hk7 := hv7.keptW
    have hb7 := Hbl.out.kept hk7 (by simp)
    have hc70 := hb7.cell 0
    have hc71 := hb7.cell 1
    have hc72 := hb7.cell 2
    have hf70 := hb7.frozen 0
    have hf71 := hb7.frozen 1
    have hf72 := hb7.frozen 2
    have hlt7 := hb7.lt
    simp only [List.getElem?_toArray, List.getElem?_cons_zero, List.getElem?_cons_succ] at hc70 hc71 hc72
    have Hb7 := Lib.hid hb7
    have Hk7 := Lib.hid (((Kept.refl [] w).alloc (.cells #[.int .i64 0, .int .i64 0, .slice none 0 0] 91)).trans hk7 (by simp))
    clear hv7 hk7 hb7
    by_cases g1 : m4 = [103, 111, 105, 116]
    · have g1' : (m4 == [103, 111, 105, 116]) = true := by simpa using g1
      have G1 := Lib.hid g1
      clear g1
      go_wp2_with fail
      have hr8 := (H.out.kept Hk7.out (by simp)).upto 8 (by omega)
      rw [Hy.out] at hr8
      refine (Crc_any _ _ _ _ _ _ hr8).mono ?_
      rintro e w8 ⟨rfl, rfl⟩
      clear hr8
      by_cases g2 : num c4 = crc (m4 ++ (k1 ++ (v1 ++ n2)))
      · have g2' : (((num c4 : Nat) : Int) == ((crc (m4 ++ (k1 ++ (v1 ++ n2))) : Nat) : Int)) = true := by simp; omega
        have G2 := Lib.hid g2
        clear g2
        by_cases g3 : 4096 < num n2
        · have Hp := Lib.hid (show takeP m4 k1 v1 n2 c4 s4 rest = (default, 0, 4) by unfold takeP; rw [if_neg (by simp [G1.out]), if_neg (by simp [G2.out]), if_pos g3])
          go_wp2_with fail
          obtain ⟨r1, r2, r3⟩ := Hb7.out.cells3 (.int .i64 0) (.int .i64 0) (.slice none 0 0)
          refine bodyPost_ret (by simp [results, Tryd.results55, go_sem, r1, r2, r3]; rfl) rfl ?_
          rw [Hp.out]
          exact ⟨_, rfl, Own.nil _ _ _, Hk7.out.cells3 (Nat.le_refl _) _ _ _, by simp [rowOf, Value.ownBlock]⟩
        · by_cases g4 : m < num n2 + 16
          · have Hp := Lib.hid (show takeP m4 k1 v1 n2 c4 s4 rest = (default, 0, 2) by unfold takeP; rw [if_neg (by simp [G1.out]), if_neg (by simp [G2.out]), if_neg g3, if_pos (by have := Hrl.out; omega)])
            go_wp2_with fail
            obtain ⟨r1, r2, r3⟩ := Hb7.out.cells3 (.int .i64 0) (.int .i64 0) (.slice none 0 0)
            refine bodyPost_ret (by simp [results, Tryd.results55, go_sem, r1, r2, r3]; rfl) rfl ?_
            rw [Hp.out]
            exact ⟨_, rfl, Own.nil _ _ _, Hk7.out.cells3 (Nat.le_refl _) _ _ _, by simp [rowOf, Value.ownBlock]⟩
          · have HB1 := Lib.hid (show RdB w7 G (.slice (A.map fun x => ⟨x.block, x.off + 16, none⟩) (num n2) (c - 16)) (rest.take (num n2)) from by
              have h1 := ((H.out.kept Hk7.out (by simp)).drop 16 h16').upto (num n2) (by omega)
              rw [Hz.out] at h1
              exact h1)
            have HB2 := Lib.hid (show c = 16 → RdB w7 G (.slice A (num n2) 0) (rest.take (num n2)) from fun hc => by
              have h1 := Hrl.out
              have h2 : num n2 = 0 := by omega
              have h3 : rest = [] := List.eq_nil_of_length_eq_zero (by omega)
              rw [h2, h3]
              exact ⟨A, 0, 0, rfl, rfl, by omega, by unfold maxLen; omega, Rd.nil _ _, by simp, fun _ => ⟨rfl, rfl⟩⟩)
            have Hp5 := Lib.hid (show num s4 ≠ crc (rest.take (num n2)) → takeP m4 k1 v1 n2 c4 s4 rest = (default, 0, 5) from fun g5 => by unfold takeP; rw [if_neg (by simp [G1.out]), if_neg (by simp [G2.out]), if_neg g3, if_neg (by have := Hrl.out; omega), if_pos g5])
            have Hp6 := Lib.hid (show num s4 = crc (rest.take (num n2)) → takeP m4 k1 v1 n2 c4 s4 rest = (⟨(num k1 : Nat), (num v1 : Nat), rest.take (num n2)⟩, 16 + num n2, 0) from fun g5 => by unfold takeP; rw [if_neg (by simp [G1.out]), if_neg (by simp [G2.out]), if_neg g3, if_neg (by have := Hrl.out; omega), if_neg (by simp [g5])])
            go_wp2_with fail
            all_goals
              first
                | refine (BClone_any _ _ _ _ _ HB1.out.rd HB1.out.len.1 HB1.out.len.2.2.2 (by omega)).mono ?_
                | refine (BClone_any _ _ _ _ _ (HB2.out (by omega)).rd (HB2.out (by omega)).len.1 (HB2.out (by omega)).len.2.2.2 (by omega)).mono ?_
              rintro e w8 ⟨v8, rfl, ho8, hk8, hd8⟩
              obtain ⟨A8, n8, c8, rfl⟩ := ho8.form'
              have Ho8 := Lib.hid ho8
              have Hd8 := Lib.hid hd8
              have hb8 := Hb7.out.kept hk8 (by simp)
              have hc80 := hb8.cell 0
              have hc81 := hb8.cell 1
              have hc82 := hb8.cell 2
              have hf80 := hb8.frozen 0
              have hf81 := hb8.frozen 1
              have hf82 := hb8.frozen 2
              have hlt8 := hb8.lt
              simp only [List.getElem?_toArray, List.getElem?_cons_zero, List.getElem?_cons_succ] at hc80 hc81 hc82
              have Hb7' := Lib.hid hb8
              have Hk8 := Lib.hid (Hk7.out.trans hk8 (by simp))
              have Hle := Lib.hid (show w.heap.size + 1 ≤ w7.heap.size from hlt7)
              clear ho8 hd8 hb8 hk8
              go_wp2_with fail
              refine (Crc_any _ _ _ _ _ _ (RdB.of_own Ho8.out)).mono ?_
              rintro e w9 ⟨rfl, rfl⟩
              by_cases g5 : num s4 = crc (rest.take (num n2))
              · have Hp := Lib.hid (Hp6.out g5)
                have g5' : (((num s4 : Nat) : Int) == ((crc (rest.take (num n2)) : Nat) : Int)) = true := by simp; omega
                clear g5
                go_wp2_with fail
                obtain ⟨r1, r2, r3⟩ := Hb7'.out.cells3 (.int .i64 (num k1 : Nat)) (.int .i64 (num v1 : Nat)) (.slice A8 n8 c8)
                refine bodyPost_ret (by simp [results, Tryd.results55, go_sem, r1, r2, r3]; rfl) rfl ?_
                rw [Hp.out]
                refine ⟨.slice A8 n8 c8, by simp, ?_⟩
                have hl : (rest.take (num n2)).length = num n2 := by rw [List.length_take]; have := Hrl.out; omega
                show New w 5 1 (.slice A8 n8 c8) (rest.take (num n2)).length (u8s (rest.take (num n2))) _
                rw [hl]
                have hg : ∀ k ∈ rowOf (.slice A8 n8 c8), w.heap.size + 1 ≤ k := fun k hk => by
                  have h8 := Hd8.out k hk
                  have h9 := Hle.out
                  omega
                refine ⟨Ho8.out.kept (((((Kept.refl [w.heap.size] w8).setCell (p := ⟨w.heap.size, 0, none⟩) (.inl (by simp)) (.int .i64 (num k1 : Nat))).setCell (p := ⟨w.heap.size, 1, none⟩) (.inl (by simp)) (.int .i64 (num v1 : Nat))).setCell (p := ⟨w.heap.size, 2, none⟩) (.inl (by simp)) (.slice A8 n8 c8))) (fun k hk hm => ?_), Hk8.out.cells3 (Nat.le_refl _) _ _ _, fun k hk => ?_⟩
                · have := hg k hk
                  simp at hm
                  omega
                · have := hg k hk
                  omega
              · have Hp := Lib.hid (Hp5.out g5)
                have g5' : (((num s4 : Nat) : Int) == ((crc (rest.take (num n2)) : Nat) : Int)) = false := by simp; omega
                clear g5
                go_wp2_with fail
                obtain ⟨r1, r2, r3⟩ := Hb7'.out.cells3 (.int .i64 0) (.int .i64 0) (.slice none 0 0)
                refine bodyPost_ret (by simp [results, Tryd.results55, go_sem, r1, r2, r3]; rfl) rfl ?_
                rw [Hp.out]
                exact ⟨_, rfl, Own.nil _ _ _, Hk8.out.cells3 (Nat.le_refl _) _ _ _, by simp [rowOf, Value.ownBlock]⟩
      · have Hp := Lib.hid (show takeP m4 k1 v1 n2 c4 s4 rest = (default, 0, 5) by unfold takeP; rw [if_neg (by simp [G1.out]), if_pos g2])
        have g2' : (((num c4 : Nat) : Int) == ((crc (m4 ++ (k1 ++ (v1 ++ n2))) : Nat) : Int)) = false := by simp; omega
        clear g2
        go_wp2_with fail
        obtain ⟨r1, r2, r3⟩ := Hb7.out.cells3 (.int .i64 0) (.int .i64 0) (.slice none 0 0)
        refine bodyPost_ret (by simp [results, Tryd.results55, go_sem, r1, r2, r3]; rfl) rfl ?_
        rw [Hp.out]
        exact ⟨_, rfl, Own.nil _ _ _, Hk7.out.cells3 (Nat.le_refl _) _ _ _, by simp [rowOf, Value.ownBlock]⟩
    · have Hp := Lib.hid (show takeP m4 k1 v1 n2 c4 s4 rest = (default, 0, 3) by unfold takeP; rw [if_pos g1])
      have g1' : (m4 == [103, 111, 105, 116]) = false := by simpa using g1
      clear g1
      go_wp2_with fail
      obtain ⟨r1, r2, r3⟩ := Hb7.out.cells3 (.int .i64 0) (.int .i64 0) (.slice none 0 0)
      refine bodyPost_ret (by simp [results, Tryd.results55, go_sem, r1, r2, r3]; rfl) rfl ?_
      rw [Hp.out]
      exact ⟨_, rfl, Own.nil _ _ _, Hk7.out.cells3 (Nat.le_refl _) _ _ _, by simp [rowOf, Value.ownBlock]⟩
end Go.Proofs.YtflbeipnnmeiaaaDoor
