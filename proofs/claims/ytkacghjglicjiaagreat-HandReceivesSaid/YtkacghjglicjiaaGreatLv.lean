/-
  Slices of structs of the call's own; what their elements read as.
-/
import Derived.Test.YtkacghjglicjiaaGreatFrame
import Derived.ProofKit
import Derived.OpenShut
import Derived.JoinedCond
import Derived.Deep.Slices
import Derived.SizedLaws
import Derived.Test.YtkacghjglicjiaaGreatOctR
namespace Go.Proofs.YtkacghjglicjiaaGreat
set_option linter.unusedVariables false
section
open Go.RowKit
set_option maxRecDepth 100000
theorem BClone_any (w : World) (A : Option Addr) (m c : Nat) (cs : List UInt8) (hr : Rd w A (u8s cs)) (hm : cs.length = m) (hA : A = none → m = 0 ∧ c = 0) (hl : m ≤ 140737488355328) :
    Calls Tryz.prog 115 #[.slice A m c] w fun e w' => ∃ v, e = .returned v ∧ New w 5 1 v m (u8s cs) w' := by
  cases A with
  | none =>
    obtain ⟨rfl, rfl⟩ := hA rfl
    obtain rfl : cs = [] := List.eq_nil_of_length_eq_zero hm
    have hq := eql_nil8
    go_enter Tryz.func115, Tryz.ntmps115
    go_wp2
    go_ret
    exact ⟨_, rfl, New.nil _ _ _⟩
  | some a =>
    have Hr := Lib.hid hr
    have Hm := Lib.hid hm
    clear hr hm hA
    have hq := eql_nil8
    go_enter Tryz.func115, Tryz.ntmps115
    go_wp2_with (at_builtin; refine wpList_app _ rfl (.tmp 5) (.tmp 6) 31 rfl elem_u8 (by rfl) (World.ownsRow_made w #[] 0 (Nat.zero_le _) (by unfold maxLen; omega) rfl) (by rfl) (Hr.out.alloc _) (by rw [u8s_len, Hm.out]; omega) (u8s_one _) (by unfold maxLen; omega) (by omega) ?_; intro v2 w2 ho2 hk2 hr2)
    go_ret
    refine ⟨v2, rfl, by simpa using ho2, ?_, fun k hk => ?_⟩
    · exact ((Kept.refl [] w).alloc _).trans hk2 (fun i hi => .inr (by simp [rowOf, Value.ownBlock] at hi; omega))
    · rcases hr2 k hk with h1 | h1
      · simp [rowOf, Value.ownBlock] at h1; omega
      · simp at h1; omega
end
section
open Go.RowKit
set_option maxRecDepth 100000
def takeP (m4 k1 v1 n2 c4 s4 rest : List UInt8) : FrameD × Nat × Int :=
  if m4 ≠ [103, 111, 105, 116] then (default, 0, 3)
  else if num c4 ≠ crc (m4 ++ (k1 ++ (v1 ++ n2))) then (default, 0, 5)
  else if 4096 < num n2 then (default, 0, 4)
  else if rest.length < num n2 then (default, 0, 2)
  else if num s4 ≠ crc (rest.take (num n2)) then (default, 0, 5)
  else (⟨(num k1 : Nat), (num v1 : Nat), rest.take (num n2)⟩, 16 + num n2, 0)
def takeF (bs : List UInt8) : FrameD × Nat × Int :=
  if bs.length < 16 then (default, 0, 2)
  else takeP (bs.take 4) ((bs.drop 4).take 1) ((bs.drop 5).take 1) ((bs.drop 6).take 2) ((bs.drop 8).take 4) ((bs.drop 12).take 4) (bs.drop 16)
theorem take_cut (bs : List UInt8) (a b : Nat) : bs.drop a = (bs.drop a).take b ++ bs.drop (a + b) := by
  rw [← List.drop_drop, List.take_append_drop]
theorem take_parts (bs : List UInt8) (h : 16 ≤ bs.length) : ∃ m4 k1 v1 n2 c4 s4 rest : List UInt8, bs = m4 ++ (k1 ++ (v1 ++ (n2 ++ (c4 ++ (s4 ++ rest))))) ∧ m4.length = 4 ∧ k1.length = 1 ∧ v1.length = 1 ∧ n2.length = 2 ∧ c4.length = 4 ∧ s4.length = 4 ∧ takeF bs = takeP m4 k1 v1 n2 c4 s4 rest := by
  refine ⟨bs.take 4, (bs.drop 4).take 1, (bs.drop 5).take 1, (bs.drop 6).take 2, (bs.drop 8).take 4, (bs.drop 12).take 4, bs.drop 16, ?_, ?_, ?_, ?_, ?_, ?_, ?_, ?_⟩
  · rw [← take_cut bs 12 4, ← take_cut bs 8 4, ← take_cut bs 6 2, ← take_cut bs 5 1, ← take_cut bs 4 1, List.take_append_drop]
  all_goals first | (simp [takeF]; omega) | (simp; omega)
theorem takeF_parts (m4 k1 v1 n2 c4 s4 rest : List UInt8) (h1 : m4.length = 4) (h2 : k1.length = 1) (h3 : v1.length = 1) (h4 : n2.length = 2) (h5 : c4.length = 4) (h6 : s4.length = 4) :
    takeF (m4 ++ (k1 ++ (v1 ++ (n2 ++ (c4 ++ (s4 ++ rest)))))) = takeP m4 k1 v1 n2 c4 s4 rest := by
  obtain ⟨a1, a2, a3, a4, a5, a6, a7, e, l1, l2, l3, l4, l5, l6, ht⟩ := take_parts (m4 ++ (k1 ++ (v1 ++ (n2 ++ (c4 ++ (s4 ++ rest)))))) (by simp; omega)
  rw [ht]
  obtain ⟨q1, e1⟩ := List.append_inj e (by omega)
  obtain ⟨q2, e2⟩ := List.append_inj e1 (by omega)
  obtain ⟨q3, e3⟩ := List.append_inj e2 (by omega)
  obtain ⟨q4, e4⟩ := List.append_inj e3 (by omega)
  obtain ⟨q5, e5⟩ := List.append_inj e4 (by omega)
  obtain ⟨q6, q7⟩ := List.append_inj e5 (by omega)
  rw [q1, q2, q3, q4, q5, q6, q7]
def RV (W : World) (b : Nat) (bs : List UInt8) (w : World) : Prop := ∃ G, Rdr w b G bs 0 ∧ W.heap.size ≤ b ∧ (∀ k ∈ G, W.heap.size ≤ k ∧ k < b) ∧ Kept [] W w
theorem RV.keptW {W w : World} {b : Nat} {bs : List UInt8} (h : RV W b bs w) : Kept [] W w := by obtain ⟨_, _, _, _, h4⟩ := h; exact h4
theorem tk_app (cs rest : List UInt8) (n : Int) (h : (cs.length : Int) = n) : tk (cs ++ rest) 0 n = (cs, rest, 0) := by
  subst h
  have : ¬ ((cs.length : Int) < 0) := by omega
  have h2 : ¬ (((cs ++ rest).length : Int) < cs.length) := by simp; omega
  simp only [tk, ne_eq, not_true_eq_false, false_or, if_neg this, if_neg h2]
  simp
theorem RV.step {W w w' : World} {b : Nat} {G : List Nat} {cs rest : List UInt8} {n : Int} (hn : (cs.length : Int) = n) (hb : W.heap.size ≤ b) (hG : ∀ k ∈ G, W.heap.size ≤ k ∧ k < b) (hk : Kept [] W w)
    (h : Rdr w' b G (tk (cs ++ rest) 0 n).2.1 (tk (cs ++ rest) 0 n).2.2) (hk' : Kept [b] w w') : RV W b rest w' := by
  rw [tk_app cs rest n hn] at h
  exact ⟨G, h, hb, hG, hk.trans hk' (fun i hi => .inr (by simp at hi; omega))⟩
theorem XU8 {W w : World} {b : Nat} {cs rest : List UInt8} (h : RV W b (cs ++ rest) w) (hc : cs.length = 1) :
    Calls Tryz.prog 112 #[.pointer (some ⟨b, 0, none⟩)] w fun en w' => en = .returned (.int .i64 (num cs : Nat)) ∧ RV W b rest w' := by
  obtain ⟨G, h1, h2, h3, h4⟩ := h
  refine (RU8_any w b G _ 0 h1).mono ?_
  rintro en w' ⟨rfl, g1, g2⟩
  exact ⟨by rw [tk_app cs rest 1 (by omega)], RV.step (by omega) h2 h3 h4 g1 g2⟩
theorem XU16 {W w : World} {b : Nat} {cs rest : List UInt8} (h : RV W b (cs ++ rest) w) (hc : cs.length = 2) :
    Calls Tryz.prog 113 #[.pointer (some ⟨b, 0, none⟩)] w fun en w' => en = .returned (.int .i64 (num cs : Nat)) ∧ RV W b rest w' := by
  obtain ⟨G, h1, h2, h3, h4⟩ := h
  refine (RU16_any w b G _ 0 h1).mono ?_
  rintro en w' ⟨rfl, g1, g2⟩
  exact ⟨by rw [tk_app cs rest 2 (by omega)], RV.step (by omega) h2 h3 h4 g1 g2⟩
theorem XU32 {W w : World} {b : Nat} {cs rest : List UInt8} (h : RV W b (cs ++ rest) w) (hc : cs.length = 4) :
    Calls Tryz.prog 114 #[.pointer (some ⟨b, 0, none⟩)] w fun en w' => en = .returned (.int .u32 (num cs : Nat)) ∧ RV W b rest w' := by
  obtain ⟨G, h1, h2, h3, h4⟩ := h
  refine (RU32_any w b G _ 0 h1).mono ?_
  rintro en w' ⟨rfl, g1, g2⟩
  exact ⟨by rw [tk_app cs rest 4 (by omega)], RV.step (by omega) h2 h3 h4 g1 g2⟩
theorem XRaw {W w : World} {b : Nat} {cs rest : List UInt8} (h : RV W b (cs ++ rest) w) (n : Int) (hc : (cs.length : Int) = n) (hl : (cs ++ rest).length ≤ 140737488355328) :
    Calls Tryz.prog 111 #[.pointer (some ⟨b, 0, none⟩), .int .i64 n] w fun en w' => ∃ A m c, en = .returned (.slice A m c) ∧ RdB w' (rowOf (.slice A m c)) (.slice A m c) cs ∧ RV W b rest w' := by
  obtain ⟨G, h1, h2, h3, h4⟩ := h
  refine (RRaw_any w b G _ 0 n h1 hl).mono ?_
  rintro en w' ⟨v, rfl, g1, g2, g3, g4⟩
  rw [tk_app cs rest n hc] at g1
  obtain ⟨A, m, c, rfl⟩ := g1.form'
  exact ⟨A, m, c, rfl, RdB.of_own g1, RV.step hc h2 h3 h4 g3 g4⟩
theorem XNew (w : World) {G : List Nat} {A : Option Addr} {m c : Nat} {bs : List UInt8} (h : RdB w G (.slice A m c) bs) (hl : m ≤ 140737488355328) :
    Calls Tryz.prog 71 #[.slice A m c] w fun e w' => ∃ b, e = .returned (.pointer (some ⟨b, 0, none⟩)) ∧ RV w b bs w' := by
  have hh := h.len
  refine (NewReader_any w A m c bs h.rd hh.1 hh.2.2.2 hl).mono ?_
  rintro e w' ⟨b, G', rfl, g1, g2, g3, g4⟩
  exact ⟨b, rfl, G', g1, g3, g4, g2⟩
theorem mem_addr {A : Option Addr} {k i : Nat} (h : i ∈ addrOf (A.map (·.add k))) : i ∈ addrOf A := by
  cases A with
  | none => simp [addrOf] at h
  | some a =>
    simp only [Option.map_some, addrOf, Addr.add] at h ⊢
    split at h <;> simpa using h
theorem RdB.upto {w : World} {G : List Nat} {A : Option Addr} {m c : Nat} {bs : List UInt8} (h : RdB w G (.slice A m c) bs) (k : Nat) (hk : k ≤ m) : RdB w G (.slice A k c) (bs.take k) := by
  obtain ⟨A', m', c', e, h2, h3, h4, h5, h6, h7⟩ := h
  injection e with e1 e2 e3
  subst e1 e2 e3
  exact ⟨A, k, c, rfl, by rw [List.length_take]; omega, by omega, h4, h5.take k, fun i hi hne => h6 i hi (ne_take hne), fun hA => by have := h7 hA; omega⟩
theorem RdB.drop {w : World} {G : List Nat} {A : Option Addr} {m c : Nat} {bs : List UInt8} (h : RdB w G (.slice A m c) bs) (k : Nat) (hk : k ≤ m) : RdB w G (.slice (A.map (·.add k)) (m - k) (c - k)) (bs.drop k) := by
  obtain ⟨A', m', c', e, h2, h3, h4, h5, h6, h7⟩ := h
  injection e with e1 e2 e3
  subst e1 e2 e3
  exact ⟨_, _, _, rfl, by rw [List.length_drop]; omega, by omega, by omega, h5.drop k, fun i hi hne => h6 i (mem_addr hi) (ne_drop hne), fun hA => by have := h7 (by simpa using hA); omega⟩
set_option maxHeartbeats 3200000 in
theorem Take_any (w : World) (G : List Nat) (A : Option Addr) (m c : Nat) (bs : List UInt8) (h : RdB w G (.slice A m c) bs) :
    Calls Tryz.prog 70 #[.slice A m c] w fun e w' => ∃ v, e = .returned (.tuple #[.agg #[.int .i64 (takeF bs).1.kind, .int .i64 (takeF bs).1.ver, v], .int .i64 (takeF bs).2.1, .int .i64 (takeF bs).2.2]) ∧ New w 5 1 v (takeF bs).1.body.length (u8s (takeF bs).1.body) w' := by
  have hm := h.len
  have H := Lib.hid h
  have Hm := Lib.hid hm.1
  have hcm := hm.2.2.1
  have hmc := hm.2.1
  unfold maxLen at hcm
  clear h hm
  by_cases h16 : m < 16
  · have ht : takeF bs = (default, 0, 2) := by unfold takeF; rw [if_pos (by rw [Hm.out]; exact h16)]
    rw [ht]
    clear ht
    go_enter Tryz.func70, Tryz.ntmps70
    go_wp2
    refine bodyPost_ret (by simp [results, Tryz.results70, go_sem]; rfl) rfl ?_
    exact ⟨_, rfl, Own.nil _ _ _, (Kept.refl _ _).alloc _, by simp [rowOf, Value.ownBlock]⟩
  · have h16' : 16 ≤ m := by omega
    clear h16
    obtain ⟨m4, k1, v1, n2, c4, s4, rest, hbs, l1, l2, l3, l4, l5, l6, ht⟩ := take_parts bs (by rw [Hm.out]; omega)
    rw [ht]
    have hrl : rest.length + 16 = m := by rw [← Hm.out, hbs]; simp; omega
    have Hx : Hid (bs.take 16 = m4 ++ (k1 ++ (v1 ++ (n2 ++ (c4 ++ (s4 ++ [])))))) := by
      rw [hbs, show m4 ++ (k1 ++ (v1 ++ (n2 ++ (c4 ++ (s4 ++ rest))))) = (m4 ++ (k1 ++ (v1 ++ (n2 ++ (c4 ++ (s4 ++ [])))))) ++ rest by simp]
      exact List.take_left' (by simp; omega)
    have Hy : Hid (bs.take 8 = m4 ++ (k1 ++ (v1 ++ n2))) := by
      rw [hbs, show m4 ++ (k1 ++ (v1 ++ (n2 ++ (c4 ++ (s4 ++ rest))))) = (m4 ++ (k1 ++ (v1 ++ n2))) ++ (c4 ++ (s4 ++ rest)) by simp]
      exact List.take_left' (by simp; omega)
    have Hz : Hid (bs.drop 16 = rest) := by
      rw [hbs, show m4 ++ (k1 ++ (v1 ++ (n2 ++ (c4 ++ (s4 ++ rest))))) = (m4 ++ (k1 ++ (v1 ++ (n2 ++ (c4 ++ s4))))) ++ rest by simp]
      exact List.drop_left' (by simp; omega)
    have hn2 : num n2 < 65536 := by have := num_lt n2; rw [l4] at this; omega
    clear hbs ht
    have L1 := Lib.hid l1
    have L2 := Lib.hid l2
    have L3 := Lib.hid l3
    have L4 := Lib.hid l4
    have L5 := Lib.hid l5
    have L6 := Lib.hid l6
    have Hrl := Lib.hid hrl
    clear l1 l2 l3 l4 l5 l6 hrl
    have hts := strOf_toList m4
    have hbl := Blk.new w 45 #[.int .i64 0, .int .i64 0, .slice none 0 0]
    have Hbl := Lib.hid hbl
    clear hbl
    go_enter Tryz.func70, Tryz.ntmps70
    go_wp2_with fail
    have hr16 := (H.out.kept ((Kept.refl [] w).alloc (.cells #[.int .i64 0, .int .i64 0, .slice none 0 0] 45)) (by simp)).upto 16 h16'
    rw [Hx.out] at hr16
    refine (XNew _ hr16 (by omega)).mono ?_
    rintro e w1 ⟨b, rfl, hv1⟩
    have Hv1 := Lib.hid hv1
    clear hr16 hv1
    go_wp2_with (go_at_call 111
                 refine (XRaw Hv1.out 4 (by rw [L1.out]; rfl) (by simp [L1.out, L2.out, L3.out, L4.out, L5.out, L6.out])).mono ?_
                 rintro e w2 ⟨A2, m2, c2, rfl, hr2, hv2⟩
                 have hq2 := run_str hr2
                 have Hv2 := Lib.hid hv2
                 clear hr2 hv2)
    clear hq2
    refine (XU8 Hv2.out L2.out).mono ?_
    rintro e w3 ⟨rfl, hv3⟩
    have Hv3 := Lib.hid hv3
    clear hv3
    go_wp2_with fail
    refine (XU8 Hv3.out L3.out).mono ?_
    rintro e w4 ⟨rfl, hv4⟩
    have Hv4 := Lib.hid hv4
    clear hv4
    go_wp2_with fail
    refine (XU16 Hv4.out L4.out).mono ?_
    rintro e w5 ⟨rfl, hv5⟩
    have Hv5 := Lib.hid hv5
    clear hv5
    go_wp2_with fail
    refine (XU32 Hv5.out L5.out).mono ?_
    rintro e w6 ⟨rfl, hv6⟩
    have Hv6 := Lib.hid hv6
    clear hv6
    go_wp2_with fail
    refine (XU32 Hv6.out L6.out).mono ?_
    rintro e w7 ⟨rfl, hv7⟩
    have hk7 := hv7.keptW
    have hb7 := Hbl.out.kept hk7 (by simp)
    have hc70 := hb7.cell 0
    have hc71 := hb7.cell 1
    have hc72 := hb7.cell 2
    have hf70 := hb7.frozen 0
    have hf71 := hb7.frozen 1
    have hf72 := hb7.frozen 2
    have hlt7 := hb7.lt
    simp only [List.getElem?_toArray, List.getElem?_cons_zero, List.getElem?_cons_succ] at hc70 hc71 hc72
    have Hb7 := Lib.hid hb7
    have Hk7 := Lib.hid (((Kept.refl [] w).alloc (.cells #[.int .i64 0, .int .i64 0, .slice none 0 0] 45)).trans hk7 (by simp))
    clear hv7 hk7 hb7
    by_cases g1 : m4 = [103, 111, 105, 116]
    · have g1' : (m4 == [103, 111, 105, 116]) = true := by simpa using g1
      have G1 := Lib.hid g1
      clear g1
      go_wp2_with fail
      have hr8 := (H.out.kept Hk7.out (by simp)).upto 8 (by omega)
      rw [Hy.out] at hr8
      refine (Crc_any _ _ _ _ _ _ hr8).mono ?_
      rintro e w8 ⟨rfl, rfl⟩
      clear hr8
      by_cases g2 : num c4 = crc (m4 ++ (k1 ++ (v1 ++ n2)))
      · have g2' : (((num c4 : Nat) : Int) == ((crc (m4 ++ (k1 ++ (v1 ++ n2))) : Nat) : Int)) = true := by simp; omega
        have G2 := Lib.hid g2
        clear g2
        by_cases g3 : 4096 < num n2
        · have Hp := Lib.hid (show takeP m4 k1 v1 n2 c4 s4 rest = (default, 0, 4) by unfold takeP; rw [if_neg (by simp [G1.out]), if_neg (by simp [G2.out]), if_pos g3])
          go_wp2_with fail
          obtain ⟨r1, r2, r3⟩ := Hb7.out.cells3 (.int .i64 0) (.int .i64 0) (.slice none 0 0)
          refine bodyPost_ret (by simp [results, Tryz.results70, go_sem, r1, r2, r3]; rfl) rfl ?_
          rw [Hp.out]
          exact ⟨_, rfl, Own.nil _ _ _, Hk7.out.cells3 (Nat.le_refl _) _ _ _, by simp [rowOf, Value.ownBlock]⟩
        · by_cases g4 : m < num n2 + 16
          · have Hp := Lib.hid (show takeP m4 k1 v1 n2 c4 s4 rest = (default, 0, 2) by unfold takeP; rw [if_neg (by simp [G1.out]), if_neg (by simp [G2.out]), if_neg g3, if_pos (by have := Hrl.out; omega)])
            go_wp2_with fail
            obtain ⟨r1, r2, r3⟩ := Hb7.out.cells3 (.int .i64 0) (.int .i64 0) (.slice none 0 0)
            refine bodyPost_ret (by simp [results, Tryz.results70, go_sem, r1, r2, r3]; rfl) rfl ?_
            rw [Hp.out]
            exact ⟨_, rfl, Own.nil _ _ _, Hk7.out.cells3 (Nat.le_refl _) _ _ _, by simp [rowOf, Value.ownBlock]⟩
          · have HB1 := Lib.hid (show RdB w7 G (.slice (A.map fun x => ⟨x.block, x.off + 16, none⟩) (num n2) (c - 16)) (rest.take (num n2)) from by
              have h1 := ((H.out.kept Hk7.out (by simp)).drop 16 h16').upto (num n2) (by omega)
              rw [Hz.out] at h1
              exact h1)
            have HB2 := Lib.hid (show c = 16 → RdB w7 G (.slice A (num n2) 0) (rest.take (num n2)) from fun hc => by
              have h1 := Hrl.out
              have h2 : num n2 = 0 := by omega
              have h3 : rest = [] := List.eq_nil_of_length_eq_zero (by omega)
              rw [h2, h3]
              exact ⟨A, 0, 0, rfl, rfl, by omega, by unfold maxLen; omega, Rd.nil _ _, by simp, fun _ => ⟨rfl, rfl⟩⟩)
            have Hp5 := Lib.hid (show num s4 ≠ crc (rest.take (num n2)) → takeP m4 k1 v1 n2 c4 s4 rest = (default, 0, 5) from fun g5 => by unfold takeP; rw [if_neg (by simp [G1.out]), if_neg (by simp [G2.out]), if_neg g3, if_neg (by have := Hrl.out; omega), if_pos g5])
            have Hp6 := Lib.hid (show num s4 = crc (rest.take (num n2)) → takeP m4 k1 v1 n2 c4 s4 rest = (⟨(num k1 : Nat), (num v1 : Nat), rest.take (num n2)⟩, 16 + num n2, 0) from fun g5 => by unfold takeP; rw [if_neg (by simp [G1.out]), if_neg (by simp [G2.out]), if_neg g3, if_neg (by have := Hrl.out; omega), if_neg (by simp [g5])])
            go_wp2_with fail
            all_goals
              first
                | refine (BClone_any _ _ _ _ _ HB1.out.rd HB1.out.len.1 HB1.out.len.2.2.2 (by omega)).mono ?_
                | refine (BClone_any _ _ _ _ _ (HB2.out (by omega)).rd (HB2.out (by omega)).len.1 (HB2.out (by omega)).len.2.2.2 (by omega)).mono ?_
              rintro e w8 ⟨v8, rfl, ho8, hk8, hd8⟩
              obtain ⟨A8, n8, c8, rfl⟩ := ho8.form'
              have Ho8 := Lib.hid ho8
              have Hd8 := Lib.hid hd8
              have hb8 := Hb7.out.kept hk8 (by simp)
              have hc80 := hb8.cell 0
              have hc81 := hb8.cell 1
              have hc82 := hb8.cell 2
              have hf80 := hb8.frozen 0
              have hf81 := hb8.frozen 1
              have hf82 := hb8.frozen 2
              have hlt8 := hb8.lt
              simp only [List.getElem?_toArray, List.getElem?_cons_zero, List.getElem?_cons_succ] at hc80 hc81 hc82
              have Hb7' := Lib.hid hb8
              have Hk8 := Lib.hid (Hk7.out.trans hk8 (by simp))
              have Hle := Lib.hid (show w.heap.size + 1 ≤ w7.heap.size from hlt7)
              clear ho8 hd8 hb8 hk8
              go_wp2_with fail
              refine (Crc_any _ _ _ _ _ _ (RdB.of_own Ho8.out)).mono ?_
              rintro e w9 ⟨rfl, rfl⟩
              by_cases g5 : num s4 = crc (rest.take (num n2))
              · have Hp := Lib.hid (Hp6.out g5)
                have g5' : (((num s4 : Nat) : Int) == ((crc (rest.take (num n2)) : Nat) : Int)) = true := by simp; omega
                clear g5
                go_wp2_with fail
                obtain ⟨r1, r2, r3⟩ := Hb7'.out.cells3 (.int .i64 (num k1 : Nat)) (.int .i64 (num v1 : Nat)) (.slice A8 n8 c8)
                refine bodyPost_ret (by simp [results, Tryz.results70, go_sem, r1, r2, r3]; rfl) rfl ?_
                rw [Hp.out]
                refine ⟨.slice A8 n8 c8, by simp, ?_⟩
                have hl : (rest.take (num n2)).length = num n2 := by rw [List.length_take]; have := Hrl.out; omega
                show New w 5 1 (.slice A8 n8 c8) (rest.take (num n2)).length (u8s (rest.take (num n2))) _
                rw [hl]
                have hg : ∀ k ∈ rowOf (.slice A8 n8 c8), w.heap.size + 1 ≤ k := fun k hk => by
                  have h8 := Hd8.out k hk
                  have h9 := Hle.out
                  omega
                refine ⟨Ho8.out.kept (((((Kept.refl [w.heap.size] w8).setCell (p := ⟨w.heap.size, 0, none⟩) (.inl (by simp)) (.int .i64 (num k1 : Nat))).setCell (p := ⟨w.heap.size, 1, none⟩) (.inl (by simp)) (.int .i64 (num v1 : Nat))).setCell (p := ⟨w.heap.size, 2, none⟩) (.inl (by simp)) (.slice A8 n8 c8))) (fun k hk hm => ?_), Hk8.out.cells3 (Nat.le_refl _) _ _ _, fun k hk => ?_⟩
                · have := hg k hk
                  simp at hm
                  omega
                · have := hg k hk
                  omega
              · have Hp := Lib.hid (Hp5.out g5)
                have g5' : (((num s4 : Nat) : Int) == ((crc (rest.take (num n2)) : Nat) : Int)) = false := by simp; omega
                clear g5
                go_wp2_with fail
                obtain ⟨r1, r2, r3⟩ := Hb7'.out.cells3 (.int .i64 0) (.int .i64 0) (.slice none 0 0)
                refine bodyPost_ret (by simp [results, Tryz.results70, go_sem, r1, r2, r3]; rfl) rfl ?_
                rw [Hp.out]
                exact ⟨_, rfl, Own.nil _ _ _, Hk8.out.cells3 (Nat.le_refl _) _ _ _, by simp [rowOf, Value.ownBlock]⟩
      · have Hp := Lib.hid (show takeP m4 k1 v1 n2 c4 s4 rest = (default, 0, 5) by unfold takeP; rw [if_neg (by simp [G1.out]), if_pos g2])
        have g2' : (((num c4 : Nat) : Int) == ((crc (m4 ++ (k1 ++ (v1 ++ n2))) : Nat) : Int)) = false := by simp; omega
        clear g2
        go_wp2_with fail
        obtain ⟨r1, r2, r3⟩ := Hb7.out.cells3 (.int .i64 0) (.int .i64 0) (.slice none 0 0)
        refine bodyPost_ret (by simp [results, Tryz.results70, go_sem, r1, r2, r3]; rfl) rfl ?_
        rw [Hp.out]
        exact ⟨_, rfl, Own.nil _ _ _, Hk7.out.cells3 (Nat.le_refl _) _ _ _, by simp [rowOf, Value.ownBlock]⟩
    · have Hp := Lib.hid (show takeP m4 k1 v1 n2 c4 s4 rest = (default, 0, 3) by unfold takeP; rw [if_pos g1])
      have g1' : (m4 == [103, 111, 105, 116]) = false := by simpa using g1
      clear g1
      go_wp2_with fail
      obtain ⟨r1, r2, r3⟩ := Hb7.out.cells3 (.int .i64 0) (.int .i64 0) (.slice none 0 0)
      refine bodyPost_ret (by simp [results, Tryz.results70, go_sem, r1, r2, r3]; rfl) rfl ?_
      rw [Hp.out]
      exact ⟨_, rfl, Own.nil _ _ _, Hk7.out.cells3 (Nat.le_refl _) _ _ _, by simp [rowOf, Value.ownBlock]⟩
end
section
open Go.RowKit Go.ChangeShapes Go.WideShapes Go.ChangeAt Go.Deep
theorem laidOut : laidOutB Tryz.prog = true := by kernel_rfl
theorem own_knob : ownKnob Tryz.prog.godebug = none := by kernel_rfl
theorem trodAll_below {H : Type} {enc : TypeId × Value → H} {P : Program} {W W' : World} (hl : laidOutB P = true) (hb : Below W.heap.size W W') :
    ∀ {ts : List TypeId} {vs : List Value} {ds : List (DataW H)} {ps : List MemPlace}, (∀ t ∈ ts, P.readableRec t = true ∧ t < P.types.size) → DataW.TrodAll enc P W 0 (fun _ => true) true ts vs ds ps → (∀ x ∈ ps, x.block < W.heap.size) →
      DataW.TrodAll enc P W' 0 (fun b => decide (b < W.heap.size)) true ts vs ds ps
  | [], [], [], _, _, h, _ => h
  | _ :: _, _ :: _, _ :: _, _, hT, ⟨p, q, h1, h2, e⟩, hs =>
    ⟨p, q, Below.trod hl (hT _ (by simp)).1 (hT _ (by simp)).2 h1 hb (fun x hx => hs x (by rw [e]; exact List.mem_append_left _ hx)),
      trodAll_below hl hb (fun t ht => hT t (by simp [ht])) h2 (fun x hx => hs x (by rw [e]; exact List.mem_append_right _ hx)), e⟩
theorem law_post {H : Type} {enc : TypeId × Value → H} {fn : Func} {s : ChangeSpec} {W W' : World} {args : Array Value} {ds gs : List (DataW H)} {before : List MemPlace} (hv : s.vars = []) (hres : fn.resultTypes = #[4])
    (hT : (fn.params.toList.all fun t => Tryz.prog.readableRec t && decide (t < Tryz.prog.types.size)) = true)
    (hW : DataW.Whole enc Tryz.prog fn.params.toList s.vars false W args.toList ds gs before) (hs : s.fn H (ds ++ []) = { results := [.lit (.bool true)], args := ds }) (hb : Below W.heap.size W W') :
    ∃ v, Ending.returned (.bool true) = .returned v ∧ s.post enc Tryz.prog fn false true false false W args v W' := by
  have hlt := hW.lt
  have hW' := hW
  obtain ⟨p, q, hA, hV, rfl, hfz, hnd⟩ := hW
  rw [hv] at hV
  obtain ⟨rfl, rfl⟩ : gs = [] ∧ q = [] := by
    cases gs with
    | nil => exact ⟨rfl, hV⟩
    | cons g gs => exact hV.elim
  refine ⟨_, rfl, ds, [], _, [], p, [], hW', ?_, ?_, ?_, hb.frame _, fun h => by cases h⟩
  · rw [hs, hres]
    exact trodAll_cons_mk (shut_bool Tryz.underlying4 true) trodAll_mk0
  · rw [hs]
    refine trodAll_below laidOut hb (fun t ht => ?_) hA (fun x hx => hlt x (by simp [hx]))
    have := List.all_eq_true.1 hT t ht
    simpa using this
  · rw [hs, hv]
    rfl
abbrev old (w : World) : List Nat := List.range w.heap.size
section
variable {H : Type} {enc : TypeId × Value → H} {w : World}
theorem open_slice_at {t e : TypeId} {n : Nat} (ht : Tryz.prog.underlying t = some (.slice e)) (hn : Tryz.prog.cellsOf e = n) (hp : 0 < n) {fuel : Nat} {cs : List Value} {x : DataW H × List MemPlace} (h : DataW.trod enc Tryz.prog w 0 (fun _ => true) true fuel t cs = some x) :
    ∃ (A : Option Addr) (m c : Nat) (E : Nat → List Value) (D : Nat → DataW H), cs = [.slice A m c] ∧ m ≤ c ∧ c ≤ maxLen ∧ (A = none → m = 0 ∧ c = 0) ∧
      (0 < m → ∃ g o, A = some ⟨g, o, none⟩ ∧ g < w.heap.size ∧ ∀ i j, i < m → j < n → w.cell? ⟨g, o + (i * n + j), none⟩ = (E i)[j]?) ∧
      (∀ i, i < m → (E i).length = n ∧ ∃ fuel' ps, DataW.trod enc Tryz.prog w 0 (fun _ => true) true fuel' e (E i) = some (D i, ps)) ∧
      Rows.uptoBulkAll ((List.range m).map D) + 1 ≤ Rows.uptoBulk x.1 := by
  rcases open_slice ht h with ⟨rfl, rfl⟩ | ⟨a, len, cap, m, fu, D, Pl, rfl, _, hl, hm, hmm, rfl, hi⟩
  · exact ⟨none, 0, 0, fun _ => [], fun _ => .nil, rfl, by omega, by unfold maxLen; omega, by simp, by omega, by omega, by simp [Rows.uptoBulk, Rows.uptoBulkAll]⟩
  · simp only [if_true] at hmm
    subst hmm
    rw [hn] at hi
    have hi' : ∀ i, i < m → ∃ cs', (w.cells? 0 (a.add (i * n)) n = some cs') ∧ DataW.trod enc Tryz.prog w 0 (fun _ => true) true fu e cs' = some (D i, Pl i) := hi
    obtain ⟨E, hE⟩ := choose_lt hi'
    refine ⟨some a, len, m, E, D, rfl, hl, hm, by simp, fun h0 => ?_, fun i hlt => ?_, ?_⟩
    · have hc0 := (World.cells?_some (hE 0 (by omega)).1).2
      have hcell : ∀ i j, i < len → j < n → w.cell? (a.add (i * n + j)) = (E i)[j]? := fun i j h1 h2 => by
        rw [← add_add]; exact (World.cells?_some (hE i (by omega)).1).2.2 j h2
      have h00 := hcell 0 0 h0 hp
      have hx : (E 0)[0]? = some ((E 0)[0]'(by rw [hc0.1]; exact hp)) := List.getElem?_eq_getElem _
      rw [hx] at h00
      have hsp : a.spot = none := by
        simp only [Nat.zero_mul, Nat.add_zero, Addr.add, if_true] at h00
        unfold World.cell? at h00
        split at h00
        · split at h00
          · cases h00
          · rename_i hs; simpa using hs
        · cases h00
      have hb := World.block_lt_of_cell? w _ h00
      obtain ⟨g, o, sp⟩ := a
      simp only at hsp
      subst hsp
      refine ⟨g, o, rfl, by simpa [Addr.add] using hb, fun i j h1 h2 => ?_⟩
      rw [← Addr.add_lit]
      exact hcell i j h1 h2
    · exact ⟨(World.cells?_some (hE i (by omega)).1).2.1, fu, _, (hE i (by omega)).2⟩
    · simp only [Rows.uptoBulk]; omega
theorem list_of_dec {α : Type} [Inhabited α] {m : Nat} {E : Nat → List Value} {D : Nat → DataW H} {Dec : List Value → α → Prop} {bk : α → Nat} (h : ∀ i, i < m → ∃ a : α, Dec (E i) a ∧ bk a ≤ Rows.uptoBulk (D i)) :
    ∃ l : List α, l.length = m ∧ (∀ i a, l[i]? = some a → Dec (E i) a) ∧ (l.map bk).sum ≤ Rows.uptoBulkAll ((List.range m).map D) := by
  obtain ⟨f, hf⟩ := choose_lt h
  refine ⟨(List.range m).map f, by simp, fun i a hi => ?_, ?_⟩
  · have hlt : i < m := by have := (List.getElem?_eq_some_iff.1 hi).1; simpa using this
    have : a = f i := by simpa [hlt] using hi.symm
    rw [this]
    exact (hf i hlt).1
  · have : ∀ k, k ≤ m → (((List.range k).map f).map bk).sum ≤ Rows.uptoBulkAll ((List.range k).map D) := by
      intro k
      induction k with
      | zero => intro _; simp
      | succ k ih =>
        intro hk
        have h1 := ih (by omega)
        have h2 := (hf k (by omega)).2
        have happ : ∀ a b : List (DataW H), Rows.uptoBulkAll (a ++ b) = Rows.uptoBulkAll a + Rows.uptoBulkAll b := by
          intro a b
          induction a with
          | nil => simp [Rows.uptoBulkAll]
          | cons x a ih => simp only [List.cons_append, Rows.uptoBulkAll, ih]; omega
        simp only [List.range_succ, List.map_append, List.map_cons, List.map_nil, List.sum_append, List.sum_cons, List.sum_nil, happ, Rows.uptoBulkAll]
        omega
    exact this m (Nat.le_refl _)
end
def ArrOf {α : Type} (w : World) (G : List Nat) (n : Nat) (Dec : World → List Value → α → Prop) (v : Value) (l : List α) : Prop :=
  ∃ A m c, v = .slice A m c ∧ l.length = m ∧ m ≤ c ∧ c ≤ maxLen ∧ (A = none → m = 0 ∧ c = 0) ∧
    (l ≠ [] → ∃ g o, A = some ⟨g, o, none⟩ ∧ g ∈ G ∧ g < w.heap.size ∧ ∀ i a, l[i]? = some a → ∃ cs, cs.length = n ∧ Dec w cs a ∧ ∀ j, j < n → w.cell? ⟨g, o + (i * n + j), none⟩ = cs[j]?)
theorem ArrOf.kept {α : Type} {w w' : World} {G S : List Nat} {n : Nat} {Dec : World → List Value → α → Prop} {v : Value} {l : List α} (h : ArrOf w G n Dec v l) (hk : Kept S w w') (hd : ∀ k ∈ G, k ∉ S)
    (hD : ∀ cs a, Dec w cs a → Dec w' cs a) : ArrOf w' G n Dec v l := by
  obtain ⟨A, m, c, h1, h2, h3, h4, h5, h6⟩ := h
  refine ⟨A, m, c, h1, h2, h3, h4, h5, fun hne => ?_⟩
  obtain ⟨g, o, e1, e2, e3, e4⟩ := h6 hne
  refine ⟨g, o, e1, e2, Nat.lt_of_lt_of_le e3 hk.size, fun i a hi => ?_⟩
  obtain ⟨cs, f1, f2, f3⟩ := e4 i a hi
  exact ⟨cs, f1, hD _ _ f2, fun j hj => (hk.cell (p := ⟨g, _, none⟩) e3 (hd g e2)).trans (f3 j hj)⟩
structure CallD where
  to : Int
  n : Int
  raw : List UInt8
instance : Inhabited CallD := ⟨⟨0, 0, []⟩⟩
section
variable {H : Type} {enc : TypeId × Value → H} {w : World}
end
end
section
open Go.RowKit
structure DecOk {α : Type} (n : Nat) (Dec : World → List Nat → List Value → α → Prop) : Prop where
  len : ∀ {w : World} {G : List Nat} {cs : List Value} {a : α}, Dec w G cs a → cs.length = n
  one : ∀ {w : World} {G : List Nat} {cs : List Value} {a : α}, Dec w G cs a → ∀ u ∈ cs, u.oneCell' = true
  kept : ∀ {w w' : World} {G S : List Nat} {cs : List Value} {a : α}, Dec w G cs a → Kept S w w' → (∀ k ∈ G, k ∉ S) → Dec w' G cs a
  mono : ∀ {w : World} {G G' : List Nat} {cs : List Value} {a : α}, Dec w G cs a → (∀ k ∈ G, k ∈ G') → Dec w G' cs a
def Decs {α : Type} (Dec : World → List Nat → List Value → α → Prop) (w : World) (G : List Nat) (css : List (List Value)) (l : List α) : Prop :=
  css.length = l.length ∧ ∀ (i : Nat) (cs : List Value) (a : α), css[i]? = some cs → l[i]? = some a → Dec w G cs a
section
variable {α : Type} {n : Nat} {Dec : World → List Nat → List Value → α → Prop} {w w' : World} {G G' S : List Nat} {css css' : List (List Value)} {l l' : List α} {cs : List Value} {a : α}
theorem Decs.nil : Decs Dec w G [] [] := ⟨rfl, by simp⟩
theorem Decs.kept (D : DecOk n Dec) (h : Decs Dec w G css l) (hk : Kept S w w') (hd : ∀ k ∈ G, k ∉ S) : Decs Dec w' G css l := ⟨h.1, fun i cs a h1 h2 => D.kept (h.2 i cs a h1 h2) hk hd⟩
theorem Decs.mono (D : DecOk n Dec) (h : Decs Dec w G css l) (hg : ∀ k ∈ G, k ∈ G') : Decs Dec w G' css l := ⟨h.1, fun i cs a h1 h2 => D.mono (h.2 i cs a h1 h2) hg⟩
theorem Decs.app (h : Decs Dec w G css l) (h' : Decs Dec w G css' l') : Decs Dec w G (css ++ css') (l ++ l') := by
  refine ⟨by simp [h.1, h'.1], fun i cs a h1 h2 => ?_⟩
  by_cases hi : i < l.length
  · rw [List.getElem?_append_left (by rw [h.1]; exact hi)] at h1
    rw [List.getElem?_append_left hi] at h2
    exact h.2 i cs a h1 h2
  · rw [List.getElem?_append_right (by rw [h.1]; omega), h.1] at h1
    rw [List.getElem?_append_right (by omega)] at h2
    exact h'.2 _ cs a h1 h2
theorem Decs.one' (h : Dec w G cs a) : Decs Dec w G [cs] [a] := by
  refine ⟨rfl, fun i c b h1 h2 => ?_⟩
  cases i with
  | zero => simp at h1 h2; subst h1 h2; exact h
  | succ i => simp at h1
theorem Decs.lens (D : DecOk n Dec) (h : Decs Dec w G css l) : ∀ cs ∈ css, cs.length = n := by
  intro cs hm
  obtain ⟨i, hi⟩ := List.getElem?_of_mem hm
  have hlt : i < css.length := (List.getElem?_eq_some_iff.1 hi).1
  exact D.len (h.2 i cs _ hi (List.getElem?_eq_getElem (by rw [← h.1]; exact hlt)))
theorem Decs.ones (D : DecOk n Dec) (h : Decs Dec w G css l) : ∀ u ∈ css.flatten, u.oneCell' = true := by
  intro u hu
  obtain ⟨cs, hm, hu⟩ := List.mem_flatten.1 hu
  obtain ⟨i, hi⟩ := List.getElem?_of_mem hm
  have hlt : i < css.length := (List.getElem?_eq_some_iff.1 hi).1
  exact D.one (h.2 i cs _ hi (List.getElem?_eq_getElem (by rw [← h.1]; exact hlt))) u hu
end
theorem flat_len {α : Type} {n : Nat} : ∀ {css : List (List α)}, (∀ cs ∈ css, cs.length = n) → css.flatten.length = css.length * n
  | [], _ => by simp
  | cs :: css, h => by
    rw [List.flatten_cons, List.length_append, h cs (by simp), flat_len (fun c hc => h c (by simp [hc])), List.length_cons, Nat.succ_mul, Nat.add_comm]
theorem flat_get {α : Type} {n : Nat} : ∀ {css : List (List α)}, (∀ cs ∈ css, cs.length = n) → ∀ (i j : Nat) (cs : List α), css[i]? = some cs → j < n → css.flatten[i * n + j]? = cs[j]?
  | [], _, i, j, cs, h, _ => by simp at h
  | c :: css, hl, 0, j, cs, h, hj => by
    simp at h; subst h
    rw [List.flatten_cons, List.getElem?_append_left (by rw [hl c (by simp)]; omega), Nat.zero_mul, Nat.zero_add]
  | c :: css, hl, i + 1, j, cs, h, hj => by
    have hc := hl c (by simp)
    rw [List.flatten_cons, List.getElem?_append_right (by rw [hc, Nat.succ_mul]; omega), hc, Nat.succ_mul, show i * n + n + j - n = i * n + j by omega]
    exact flat_get (fun c hc => hl c (by simp [hc])) i j cs (by simpa using h) hj
structure LVx {α : Type} (Dec : World → List Nat → List Value → α → Prop) (e : TypeId) (n : Nat) (W w : World) (v : Value) (l : List α) (css : List (List Value)) (G : List Nat) : Prop where
  own : Own w e n v l.length css.flatten
  new : ∀ k ∈ rowOf v, W.heap.size ≤ k
  decs : Decs Dec w G css l
  apart : ∀ k ∈ G, k ∉ rowOf v ∧ k < w.heap.size
  keptW : Kept [] W w
def LV {α : Type} (Dec : World → List Nat → List Value → α → Prop) (e : TypeId) (n : Nat) (W w : World) (v : Value) (l : List α) : Prop := ∃ css G, LVx Dec e n W w v l css G
section
variable {α : Type} {n : Nat} {e : TypeId} {Dec : World → List Nat → List Value → α → Prop} {W W' w w' w1 w2 : World} {v v2 : Value} {G G' S : List Nat} {css css' : List (List Value)} {l l' : List α}
theorem LV.nil (hk : Kept [] W w) : LV Dec e n W w (.slice none 0 0) ([] : List α) :=
  ⟨[], [], Own.nil _ _ _, by simp [rowOf, Value.ownBlock], Decs.nil, by simp, hk⟩
theorem LVx.go (D : DecOk n Dec) (h : LVx Dec e n W w v l css G) (hk : Kept [] w w') : LVx Dec e n W w' v l css G :=
  ⟨h.own.kept hk (by simp), h.new, h.decs.kept D hk (by simp), fun k hk' => ⟨(h.apart k hk').1, Nat.lt_of_lt_of_le (h.apart k hk').2 hk.size⟩, h.keptW.trans hk (by simp)⟩
theorem LV.go (D : DecOk n Dec) (h : LV Dec e n W w v l) (hk : Kept [] w w') : LV Dec e n W w' v l := by
  obtain ⟨css, G, h⟩ := h
  exact ⟨css, G, h.go D hk⟩
theorem LV.wide (h : LV Dec e n W' w v l) (hk : Kept [] W W') : LV Dec e n W w v l := by
  obtain ⟨css, G, h⟩ := h
  exact ⟨css, G, h.own, fun k hk' => Nat.le_trans hk.size (h.new k hk'), h.decs, h.apart, hk.trans h.keptW (by simp)⟩
theorem LV.kept (h : LV Dec e n W w v l) : Kept [] W w := by obtain ⟨_, _, h⟩ := h; exact h.keptW
theorem LVx.other (D : DecOk n Dec) (h : LVx Dec e n W w v l css G) (hk : Kept S w w') (h1 : ∀ k ∈ rowOf v, k ∉ S) (h2 : ∀ k ∈ G, k ∉ S) (h3 : ∀ k ∈ S, W.heap.size ≤ k) : LVx Dec e n W w' v l css G :=
  ⟨h.own.kept hk h1, h.new, h.decs.kept D hk h2, fun k hk' => ⟨(h.apart k hk').1, Nat.lt_of_lt_of_le (h.apart k hk').2 hk.size⟩, h.keptW.trans hk (fun i hi => .inr (h3 i hi))⟩
theorem LVx.app (D : DecOk n Dec) (h : LVx Dec e n W w v l css G) (hk1 : Kept [] w w1) {m : Nat} {xs : List Value} (hd : Decs Dec w1 G' css' l') (hG : ∀ k ∈ G', k ∉ rowOf v ∧ k < w1.heap.size)
    (ho : Own w2 e n v2 m xs) (hm : m = (l ++ l').length) (hxs : xs = css.flatten ++ css'.flatten) (hk2 : Kept (rowOf v) w1 w2) (hr : ∀ k ∈ rowOf v2, k ∈ rowOf v ∨ w1.heap.size ≤ k) :
    LVx Dec e n W w2 v2 (l ++ l') (css ++ css') (G ++ G') := by
  subst hm hxs
  have h1 := h.go D hk1
  have hsz := h1.keptW.size
  have hap : ∀ k ∈ G ++ G', k ∉ rowOf v ∧ k < w1.heap.size := fun k hk => by
    rcases List.mem_append.1 hk with hk | hk
    · exact h1.apart k hk
    · exact hG k hk
  refine ⟨by rw [List.flatten_append]; exact ho, fun k hk => ?_, ?_, fun k hk => ⟨fun hm => ?_, Nat.lt_of_lt_of_le (hap k hk).2 hk2.size⟩, h1.keptW.trans hk2 (fun i hi => .inr (h.new i hi))⟩
  · rcases hr k hk with h3 | h3
    · exact h.new k h3
    · omega
  · refine Decs.kept D (Decs.app (h1.decs.mono D (fun k hk => List.mem_append_left _ hk)) (hd.mono D (fun k hk => List.mem_append_right _ hk))) hk2 (fun k hk => (hap k hk).1)
  · rcases hr k hm with h3 | h3
    · exact (hap k hk).1 h3
    · have := (hap k hk).2; omega
theorem LVx.arr (D : DecOk n Dec) (h : LVx Dec e n W w v l css G) : ArrOf w (G ++ rowOf v) n (fun w => Dec w (G ++ rowOf v)) v l := by
  obtain ⟨A, cap, rfl, h1, h2, h3, h4, h5⟩ := h.own.slice
  refine ⟨A, _, cap, rfl, rfl, h1, h2, h5, fun hne => ?_⟩
  have hl := h.decs.lens D
  obtain ⟨a0, l0, rfl⟩ : ∃ a l0, l = a :: l0 := by cases l with | nil => exact absurd rfl hne | cons a l => exact ⟨a, l, rfl⟩
  rcases h.own.2 with ⟨h0, h00⟩ | ⟨g, cap', cur, hv, _, hg, _⟩
  · simp at h00
  · injection hv with e1 e2 e3
    subst e1
    refine ⟨g, 0, rfl, List.mem_append_right _ (by simp [rowOf, Value.ownBlock]), (Array.getElem?_eq_some_iff.1 hg).1, fun i a hi => ?_⟩
    have hlt := (List.getElem?_eq_some_iff.1 hi).1
    have hcs : css[i]? = some (css[i]'(by rw [h.decs.1]; exact hlt)) := List.getElem?_eq_getElem _
    refine ⟨_, D.len (h.decs.2 i _ a hcs hi), D.mono (h.decs.2 i _ a hcs hi) (fun k hk => List.mem_append_left _ hk), fun j hj => ?_⟩
    have hx : css.flatten[i * n + j]? = (css[i]'(by rw [h.decs.1]; exact hlt))[j]? := flat_get hl i j _ hcs hj
    have hsome : (css[i]'(by rw [h.decs.1]; exact hlt))[j]? = some ((css[i]'(by rw [h.decs.1]; exact hlt))[j]'(by rw [D.len (h.decs.2 i _ a hcs hi)]; exact hj)) := List.getElem?_eq_getElem _
    rw [hsome] at hx ⊢
    have := World.ownsRow.cells (g := g) h.own (by simp [Value.ownBlock]) (i * n + j) _ hx
    rwa [Addr.add_lit] at this
theorem LVx.lt (h : LVx Dec e n W w v l css G) : ∀ k ∈ G ++ rowOf v, k < w.heap.size := fun k hk => by
  rcases List.mem_append.1 hk with hk | hk
  · exact (h.apart k hk).2
  · exact h.own.lt k hk
theorem LV.arr (D : DecOk n Dec) (h : LV Dec e n W w v l) : ∃ G, ArrOf w G n (fun w => Dec w G) v l ∧ ∀ k ∈ G, k < w.heap.size := by
  obtain ⟨css, G, h⟩ := h
  exact ⟨_, h.arr D, h.lt⟩
end
theorem ArrOf.decs {α : Type} {n : Nat} {Dec : World → List Nat → List Value → α → Prop} {w : World} {G : List Nat} {v : Value} {l : List α} (h : ArrOf w G n (fun w => Dec w G) v l) :
    ∃ A m c css, v = .slice A m c ∧ l.length = m ∧ m ≤ c ∧ c ≤ maxLen ∧ (A = none → m = 0 ∧ c = 0) ∧ Decs Dec w G css l ∧ (∀ cs ∈ css, cs.length = n) ∧ Rd w A css.flatten := by
  obtain ⟨A, m, c, h1, h2, h3, h4, h5, h6⟩ := h
  by_cases hne : l = []
  · subst hne
    exact ⟨A, m, c, [], h1, h2, h3, h4, h5, Decs.nil, by simp, Rd.nil _ _⟩
  · obtain ⟨g, o, rfl, hg, hlt, hc⟩ := h6 hne
    have hE : ∀ i, i < l.length → ∃ cs : List Value, cs.length = n ∧ (∀ a, l[i]? = some a → Dec w G cs a) ∧ ∀ j, j < n → w.cell? ⟨g, o + (i * n + j), none⟩ = cs[j]? := fun i hi => by
      obtain ⟨cs, f1, f2, f3⟩ := hc i _ (List.getElem?_eq_getElem hi)
      exact ⟨cs, f1, fun a ha => by rw [List.getElem?_eq_getElem hi] at ha; injection ha with ha; rw [← ha]; exact f2, f3⟩
    obtain ⟨f, hf⟩ := Go.Deep.choose_lt hE
    have hall : ∀ cs ∈ (List.range l.length).map f, cs.length = n := fun cs hm => by
      obtain ⟨i, hi, rfl⟩ := List.mem_map.1 hm
      exact (hf i (List.mem_range.1 hi)).1
    refine ⟨_, m, c, (List.range l.length).map f, h1, h2, h3, h4, h5, ⟨by simp, fun i cs a hi ha => ?_⟩, hall, fun hne' => ⟨g, o, rfl, fun j u hu => ?_⟩⟩
    · have hlt' := (List.getElem?_eq_some_iff.1 ha).1
      have : cs = f i := by simpa [hlt'] using hi.symm
      rw [this]
      exact (hf i hlt').2.1 a ha
    · have hn : 0 < n := by
        rcases Nat.eq_zero_or_pos n with h0 | h0
        · subst h0
          have := flat_len hall
          rw [Nat.mul_zero] at this
          exact absurd (List.eq_nil_of_length_eq_zero this) hne'
        · exact h0
      have hj : j < l.length * n := by
        have := (List.getElem?_eq_some_iff.1 hu).1
        rw [flat_len hall] at this
        simpa using this
      have hi : j / n < l.length := Nat.div_lt_of_lt_mul (by rw [Nat.mul_comm]; exact hj)
      have hjn : j % n < n := Nat.mod_lt _ hn
      have he : j / n * n + j % n = j := by rw [Nat.mul_comm]; exact Nat.div_add_mod j n
      have hx := flat_get hall (j / n) (j % n) (f (j / n)) (by simp [hi]) hjn
      rw [he, hu] at hx
      have := (hf _ hi).2.2 _ hjn
      rw [he] at this
      rw [this, ← hx]
theorem Rd.laid (w : World) (cs : List Value) (t : TypeId) : Rd (w.alloc (.cells cs.toArray t)) (some ⟨w.heap.size, 0, none⟩) cs := by
  have := Rd.new w cs.toArray t
  simpa using this
end
end Go.Proofs.YtkacghjglicjiaaGreat
