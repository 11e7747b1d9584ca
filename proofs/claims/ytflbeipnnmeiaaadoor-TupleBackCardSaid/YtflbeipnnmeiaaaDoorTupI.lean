
/-
  The contracts of tuple.Parse at any tuple's text and of tuple.Turn; the walk of TupleBack.
-/
import Derived.Test.YtflbeipnnmeiaaaDoorTupH
import Derived.Test.YtflbeipnnmeiaaaDoorRecZ
import Derived.Test.YtflbeipnnmeiaaaDoorArgs
import Derived.Deep.DeepCutAuto
import Derived.Outline
namespace Go.Proofs.YtflbeipnnmeiaaaDoor
open Go.RowKit Go.ChangeShapes Go.WideShapes Go.ChangeAt Go.Deep
set_option linter.unusedVariables false
set_option maxRecDepth 100000

theorem strOf_toL (l : List UInt8) : (strOf l).toList = l := by rw [strOf_toList]
theorem Parse_any (w : World) (t : TupD) (m : Int) (hs : inI t.sport) (hd : inI t.dport) (hm : w.cell? ⟨0, 0, none⟩ = some (.int .i64 m)) (ht : PowTab w) :
    Calls Tryd.prog 24 #[.string (strOf (textF t))] w fun e w' => e = .returned (.tuple #[.agg #[.int .u32 ((rdText t).1.src.toNat : Nat), .int .u32 ((rdText t).1.dst.toNat : Nat), .int .i64 (rdText t).1.proto, .int .i64 (rdText t).1.sport, .int .i64 (rdText t).1.dport], .bool (rdText t).2]) ∧ Kept [] w w' := by
  have hl1 := addrF_len t.src
  have hl2 := itoa_len hs
  have hl3 := addrF_len t.dst
  have hl4 := itoa_len hd
  have hl5 : (protoF t.proto).length ≤ 3 := by unfold protoF; split <;> (try split) <;> simp
  obtain ⟨T, hT⟩ : ∃ T : TupD, { t with proto := protoN t.proto } = T := ⟨_, rfl⟩
  have F : Hid (PF w T (strOf (protoF t.proto)) (strOf (textF t)) (strOf (addrF t.src ++ (58 :: (Lib.itoa t.sport ++ (62 :: (addrF t.dst ++ (58 :: Lib.itoa t.dport))))))) (strOf (addrF t.src ++ (58 :: Lib.itoa t.sport))) (strOf (addrF t.dst ++ (58 :: Lib.itoa t.dport))) (portF t.sport) (portF t.dport)) := Lib.hid ⟨
    fun w' hk => Cut_at w' m _ _ _ _ (by unfold textF; simp only [List.length_append, List.length_cons]; omega) (m_kept hm hk) (text_cut1 t),
    fun w' hk => Cut_at w' m _ _ _ _ (by simp only [List.length_append, List.length_cons]; omega) (m_kept hm hk) (text_cut2 t.src t.dst t.sport t.dport),
    fun w' hk => by rw [← hT]; exact end_good w' t.src t.sport hs m (m_kept hm hk) (tab_kept ht (g := 1) (by kernel_rfl) hk (by simp)),
    fun w' hk => by rw [← hT]; exact end_good w' t.dst t.dport hd m (m_kept hm hk) (tab_kept ht (g := 1) (by kernel_rfl) hk (by simp))⟩
  have hTp : T.proto = protoN t.proto := by rw [← hT]
  have h1 : T.sport = t.sport := by rw [← hT]
  have h2 : T.dport = t.dport := by rw [← hT]
  have hpT : mayT T = ((decide (T.proto = 6) || decide (T.proto = 17)) && (portF t.sport && portF t.dport)) := by
    rw [← h1, ← h2]
    unfold mayT portF
    simp only [Bool.decide_and, Bool.and_assoc]
  have hr : rdText t = if mayT T = true then (T, true) else (default, false) := by
    by_cases h6 : t.proto = 6
    · have e : T = t := by rw [← hT]; unfold protoN; rw [if_pos h6, ← h6]
      unfold rdText; rw [e]
    · by_cases h17 : t.proto = 17
      · have e : T = t := by rw [← hT]; unfold protoN; rw [if_neg h6, if_pos h17, ← h17]
        unfold rdText; rw [e]
      · have a : mayT T = false := by rw [hpT, hTp]; unfold protoN; rw [if_neg h6, if_neg h17]; rfl
        have b : mayT t = false := by unfold mayT; simp [h6, h17]
        unfold rdText; rw [a, b]; rfl
  generalize strOf (addrF t.src ++ (58 :: (Lib.itoa t.sport ++ (62 :: (addrF t.dst ++ (58 :: Lib.itoa t.dport)))))) = sr at F
  generalize strOf (addrF t.src ++ (58 :: Lib.itoa t.sport)) = s1 at F
  generalize strOf (addrF t.dst ++ (58 :: Lib.itoa t.dport)) = s2 at F
  generalize strOf (textF t) = s at *
  have b1 := strOf_toL (protoF t.proto)
  generalize strOf (protoF t.proto) = nm at *
  rw [hr, hpT]
  have hq : (T.proto = 6 ∧ nm.toList = [116, 99, 112]) ∨ (T.proto = 17 ∧ nm.toList = [117, 100, 112]) ∨ (T.proto = 0 ∧ nm.toList = [63]) := by
    rw [b1, hTp]
    unfold protoN protoF
    by_cases h6 : t.proto = 6
    · exact .inl ⟨by rw [if_pos h6], by rw [if_pos h6]⟩
    · by_cases h17 : t.proto = 17
      · exact .inr (.inl ⟨by rw [if_neg h6, if_pos h17], by rw [if_neg h6, if_pos h17]⟩)
      · exact .inr (.inr ⟨by rw [if_neg h6, if_neg h17], by rw [if_neg h6, if_neg h17]⟩)
  rcases hq with ⟨h, hn⟩ | ⟨h, hn⟩ | ⟨h, hn⟩
  · rw [h] at hpT ⊢
    cases d1 : portF t.sport
    · rw [d1] at F; exact Parse_6_f w T nm s sr s1 s2 _ F (Lib.hid h) (by rw [hn]; rfl) (by rw [hn]; rfl)
    · cases d2 : portF t.dport
      · rw [d1, d2] at F; exact Parse_6_tf w T nm s sr s1 s2 F (Lib.hid h) (by rw [hn]; rfl) (by rw [hn]; rfl)
      · rw [d1, d2] at F hpT; exact Parse_6_ttt w T nm s sr s1 s2 F (Lib.hid h) (Lib.hid hpT) (by rw [hn]; rfl) (by rw [hn]; rfl)
  · rw [h] at hpT ⊢
    cases d1 : portF t.sport
    · rw [d1] at F; exact Parse_17_f w T nm s sr s1 s2 _ F (Lib.hid h) (by rw [hn]; rfl) (by rw [hn]; rfl)
    · cases d2 : portF t.dport
      · rw [d1, d2] at F; exact Parse_17_tf w T nm s sr s1 s2 F (Lib.hid h) (by rw [hn]; rfl) (by rw [hn]; rfl)
      · rw [d1, d2] at F hpT; exact Parse_17_ttt w T nm s sr s1 s2 F (Lib.hid h) (Lib.hid hpT) (by rw [hn]; rfl) (by rw [hn]; rfl)
  · rw [h] at hpT ⊢
    cases d1 : portF t.sport
    · rw [d1] at F; exact Parse_0_f w T nm s sr s1 s2 _ F (Lib.hid h) (by rw [hn]; rfl) (by rw [hn]; rfl)
    · cases d2 : portF t.dport
      · rw [d1, d2] at F; exact Parse_0_tf w T nm s sr s1 s2 F (Lib.hid h) (by rw [hn]; rfl) (by rw [hn]; rfl)
      · rw [d1, d2] at F hpT; exact Parse_0_ttf w T nm s sr s1 s2 F (Lib.hid h) (Lib.hid hpT) (by rw [hn]; rfl) (by rw [hn]; rfl)
/-- the other way -/
def turnT (t : TupD) : TupD := ⟨t.dst, t.src, t.proto, t.dport, t.sport⟩
theorem Turn_any (w : World) (t : TupD) : Calls Tryd.prog 23 #[.agg #[.int .u32 (t.src.toNat : Nat), .int .u32 (t.dst.toNat : Nat), .int .i64 t.proto, .int .i64 t.sport, .int .i64 t.dport]] w fun e w' => e = .returned (.agg #[.int .u32 ((turnT t).src.toNat : Nat), .int .u32 ((turnT t).dst.toNat : Nat), .int .i64 (turnT t).proto, .int .i64 (turnT t).sport, .int .i64 (turnT t).dport]) ∧ Kept [] w w' := by
  have P := Lib.hid (Blk.new w 24 #[.int .u32 (t.src.toNat : Nat), .int .u32 (t.dst.toNat : Nat), .int .i64 t.proto, .int .i64 t.sport, .int .i64 t.dport])
  have K := Lib.hid ((Kept.refl [] w).alloc (.cells #[.int .u32 (t.src.toNat : Nat), .int .u32 (t.dst.toNat : Nat), .int .i64 t.proto, .int .i64 t.sport, .int .i64 t.dport] 24))
  go_enter Tryd.func23, Tryd.ntmps23
  go_wp2_with ((with_reducible show wpList _ _ _ ({ dst := none, op := Op.store 24 (.tmp 2) (.tmp 13), type := _, pos := _, after := _, guard := _ } :: _) _ _); refine wpList_put (t := 24) rfl 24 (.tmp 2) (.tmp 13) rfl _ (by rfl) (by rfl) (by (repeat (first | (apply Blk.new'; simp; done) | apply Blk.alloc | apply Blk.drew))) (by rfl) (by kernel_rfl) (by simp [Value.oneCell']) ?_; intro w9 hb9 hk9; have Hb9 := Lib.hid hb9; have Hk9 := Lib.hid hk9; clear hb9 hk9)
  refine bodyPost_ret (results_cell (t := 24) Tryd.results23 (by rfl) Hb9.out _ Tryd.underlying24 rfl (by kernel_rfl)) rfl ?_
  exact ⟨rfl, (show Kept [] w _ from by (repeat (first | exact Kept.refl _ _ | apply Kept.alloc | apply Kept.drew))).trans Hk9.out (fun i hi => .inr (by simp at hi; omega))⟩
theorem turn_turn (t : TupD) : turnT (turnT t) = t := rfl
theorem turn_may {t : TupD} (h : mayT t = true) : mayT (turnT t) = true := by
  unfold mayT turnT at *
  simp only [Bool.and_eq_true] at h ⊢
  exact ⟨h.1, h.2.2.2.1, h.2.2.2.2, h.2.1, h.2.2.1⟩
set_option maxHeartbeats 12800000 in
theorem TupleBack_any (w : World) (t : TupD) (addr : UInt32) (m : Int) (is : inI t.sport) (id : inI t.dport) (hm : w.cell? ⟨0, 0, none⟩ = some (.int .i64 m)) (ht : PowTab w) :
    Calls Tryd.prog 6 #[.agg #[.int .u32 (t.src.toNat : Nat), .int .u32 (t.dst.toNat : Nat), .int .i64 t.proto, .int .i64 t.sport, .int .i64 t.dport], .int .u32 (addr.toNat : Nat)] w fun e w' => e = .returned (.bool true) ∧ Kept [] w w' := by
  have HT := Lib.hid (fun w' (hk : Kept [] w w') => tab_kept ht (g := 1) (by kernel_rfl) hk (by simp))
  have HM := Lib.hid (fun w' (hk : Kept [] w w') => m_kept hm hk)
  have HI := Lib.hid is
  have HD := Lib.hid id
  have P := Lib.hid (Blk.new w 24 #[.int .u32 (t.src.toNat : Nat), .int .u32 (t.dst.toNat : Nat), .int .i64 t.proto, .int .i64 t.sport, .int .i64 t.dport])
  have K := Lib.hid ((Kept.refl [] w).alloc (.cells #[.int .u32 (t.src.toNat : Nat), .int .u32 (t.dst.toNat : Nat), .int .i64 t.proto, .int .i64 t.sport, .int .i64 t.dport] 24))
  have HPA := Lib.hid (fun (w' : World) (hk : Kept [] w w') => ParseAddr_good w' addr m (HM.out _ hk) (HT.out _ hk))
  have HP := Lib.hid (fun (w' : World) (hk : Kept [] w w') => Parse_any w' t m is id (HM.out _ hk) (HT.out _ hk))
  have HX := Lib.hid (fun (w' : World) (hk : Kept [] w w') => Text_any w' t is id (HT.out _ hk))
  have HA := Lib.hid (fun (w' : World) (hk : Kept [] w w') => Addr_any w' addr (HT.out _ hk))
  have htl : (textF t).length ≤ 100 := by
    have hl1 := addrF_len t.src
    have hl2 := itoa_len is
    have hl3 := addrF_len t.dst
    have hl4 := itoa_len id
    have hl5 : (protoF t.proto).length ≤ 3 := by unfold protoF; split <;> (try split) <;> simp
    unfold textF; simp only [List.length_append, List.length_cons]; omega
  obtain ⟨sa, hsa⟩ : ∃ s, strOf (addrF addr) = s := ⟨_, rfl⟩
  obtain ⟨st, hst⟩ : ∃ s, strOf (textF t) = s := ⟨_, rfl⟩
  rw [hsa] at HPA HA
  rw [hst] at HP HX
  clear hsa hst is id hm ht htl
  have HT1 := Lib.hid (fun w' => Turn_any w' t)
  have HT2 := Lib.hid (fun w' => Turn_any w' (turnT t))
  rw [turn_turn] at HT2
  obtain ⟨u, hu⟩ : ∃ u, turnT t = u := ⟨_, rfl⟩
  have HTM := Lib.hid (fun h => turn_may (t := t) h)
  rw [hu] at HT1 HT2 HTM
  clear hu
  obtain ⟨a, ha⟩ : ∃ a, addr.toNat = a := ⟨_, rfl⟩
  rw [ha] at HPA HA ⊢
  clear ha
  go_enter Tryd.func6, Tryd.ntmps6
  go_wp2_with (first
    | (go_at_call 22
       go_must (refine (HA.out _ K.out).mono ?_)
       go_must (rintro e w1 ⟨rfl, k1⟩)
       go_must (have P := Lib.hid (P.out.kept k1 (by simp)))
       go_must (have K := Lib.hid (K.out.trans k1 (by simp)))
       go_must (clear k1))
    | (go_at_call 21
       go_must (refine (HPA.out _ K.out).mono ?_)
       go_must (rintro e w0 ⟨rfl, k1⟩)
       go_must (have P := Lib.hid (P.out.kept k1 (by simp)))
       go_must (have K := Lib.hid (K.out.trans k1 (by simp)))
       go_must (clear k1)))
  go_region_held3 (fun w' => Kept [] w0 w' ∧ (∀ o, w'.cell? ⟨w.heap.size, o, none⟩ = (#[.int .u32 (t.src.toNat : Nat), .int .u32 (t.dst.toNat : Nat), .int .i64 t.proto, .int .i64 t.sport, .int .i64 t.dport] : Array Value)[o]?))
    (first | exact ⟨(Kept.refl [] _).drew, P.out.cell⟩ | exact ⟨hkn, (P.out.kept hkn (by simp)).cell⟩)
    (first
     | (go_at_call 23
        rename_i hq _ _
        (first | ((with_reducible refine (HT1.out _).mono ?_)) | ((with_reducible refine (HT2.out _).mono ?_)))
        rintro e w1 ⟨rfl, k1⟩
        have hkn := hq.1.trans k1 (by simp)
        clear k1))
  have P := Lib.hid (P.out.kept hkn (by simp))
  have K := Lib.hid (K.out.trans hkn (by simp))
  clear hkn
  have hcx := P.out.cell
  have HA7 := Lib.hid (fun (w' : World) (hk : Kept [] w w') => awake7_any w' (HT.out _ hk))
  cases dm : mayT t
  · have hr : rdText t = (default, false) := by unfold rdText; rw [dm]; rfl
    rw [hr] at HP
    have HP := Lib.hid (show ∀ (w' : World), Kept [] w w' → Calls Tryd.prog 24 #[.string st] w' fun e w'' => e = .returned (.tuple #[.agg #[.int .u32 0, .int .u32 0, .int .i64 0, .int .i64 0, .int .i64 0], .bool false]) ∧ Kept [] w' w'' from HP.out)
    clear hr
    go_wp2_with (first
      | (go_at_call 8
         go_must (refine (tMay_any _ t).mono ?_)
         go_must (rintro e w2 ⟨rfl, k1⟩)
         go_must (rw [dm])
         go_must (clear hcx)
         go_must (have P := Lib.hid (P.out.kept k1 (by simp)))
         go_must (have K := Lib.hid (K.out.trans k1 (by simp)))
         go_must (have hcx := P.out.cell)
         go_must (clear k1))
      | (go_at_call 10
         go_must (refine (HX.out _ K.out).mono ?_)
         go_must (rintro e w3 ⟨rfl, k1⟩)
         go_must (clear hcx)
         go_must (have K := Lib.hid (K.out.trans k1 (by simp)))
         go_must (clear k1))
      | (go_at_call 24
         go_must (refine (HP.out _ K.out).mono ?_)
         go_must (rintro e w4 ⟨rfl, k1⟩)
         go_must (have K := Lib.hid (K.out.trans k1 (by simp)))
         go_must (clear k1))
      | (go_at_call 9
         go_must (refine (HA7.out _ (K.out.alloc _)).mono ?_)
         go_must (rintro e w5 ⟨rfl, k1⟩)
         go_must (have K := Lib.hid ((K.out.alloc _).trans k1 (by simp)))
         go_must (clear k1)))
    go_ret
    exact ⟨rfl, K.out⟩
  · have hr : rdText t = (t, true) := by unfold rdText; rw [dm]; rfl
    rw [hr] at HP
    have HP := Lib.hid (show ∀ (w' : World), Kept [] w w' → Calls Tryd.prog 24 #[.string st] w' fun e w'' => e = .returned (.tuple #[.agg #[.int .u32 (t.src.toNat : Nat), .int .u32 (t.dst.toNat : Nat), .int .i64 t.proto, .int .i64 t.sport, .int .i64 t.dport], .bool true]) ∧ Kept [] w' w'' from HP.out)
    have hum := HTM.out dm
    have hen := rdT_enc dm []
    rw [List.append_nil] at hen
    have hbl := tupB_len t
    obtain ⟨bs, hbs⟩ : ∃ b, tupB t = b := ⟨_, rfl⟩
    have HBS := Lib.hid hbs
    rw [hbs] at hen hbl
    have HEN := Lib.hid hen
    have HBL := Lib.hid hbl
    have HEE := Lib.hid (show endOf ((some ([] : List UInt8)).getD []) (erO (some [])) = 0 from rfl)
    have HMt := Lib.hid (fun w' => tMay_any w' t)
    have HMu := Lib.hid (fun w' => tMay_any w' u)
    rw [dm] at HMt
    rw [hum] at HMu
    clear hr hbs hen hbl dm hum HTM
    go_wp2_with (first
      | (go_at_call 8
         go_must (first
           | ((with_reducible refine (HMt.out _).mono ?_)
              go_must (rintro e w2 ⟨rfl, k1⟩)
              go_must (clear hcx)
              go_must (have P := Lib.hid (P.out.kept k1 (by simp)))
              go_must (have K := Lib.hid (K.out.trans k1 (by simp)))
              go_must (have hcx := P.out.cell)
              go_must (have hlx := P.out.lt)
              go_must (have V := Lib.hid (WV.start K.out))
              go_must (clear k1))
           | ((with_reducible refine (HMu.out _).mono ?_)
              go_must (rintro e w2 ⟨rfl, k1⟩)
              go_must (have K := Lib.hid (K.out.trans k1 (by simp)))
              go_must (clear k1))))
      | (go_at_call 11
         go_must (refine (TW_any V.out t (by simp)).mono ?_)
         go_must (rintro e w3 ⟨rfl, hV2, hap⟩)
         go_must (clear hcx hlx)
         go_must (rw [HBS.out] at hV2)
         go_must (have V := Lib.hid (show WV w w2.heap.size bs w3 from hV2))
         go_must (have P := Lib.hid (hap _ _ _ (by decide) (by decide) (P.out.alloc _)))
         go_must (have K := Lib.hid V.out.kept)
         go_must (clear hV2 hap))
      | (go_at_call 13
         go_must (refine (VBytes V.out (by have := HBL.out; omega)).mono ?_)
         go_must (rintro e w4 ⟨A1, n1, c1, rfl, hn1, hnew, hV1, k1⟩)
         go_must (have hrd := RdB.of_own hnew.1)
         go_must (have RD := Lib.hid hrd)
         go_must (have V := Lib.hid hV1)
         go_must (have P := Lib.hid (P.out.kept k1 (by simp)))
         go_must (have K := Lib.hid (K.out.trans k1 (by simp)))
         go_must (clear hnew hV1 k1 hrd hn1))
      | (go_at_call 12
         go_must (have hvl2 := RD.out.len)
         go_must (refine (NewReader_any _ A1 n1 c1 bs RD.out.rd hvl2.1 hvl2.2.2.2 (by have := HBL.out; omega)).mono ?_)
         go_must (rintro e w5 ⟨rb, G1, rfl, h1, k1, hb1, hG1⟩)
         go_must (have hsz := K.out.size)
         go_must (obtain ⟨v, hwr, hvb, hvr, hvk⟩ := V.out)
         go_must (have hbb := hwr.blk.lt)
         go_must (have hlp := P.out.lt)
         go_must (have hbr : w2.heap.size < rb := by omega)
         go_must (have hpr : w.heap.size < rb := by omega)
         go_must (have HVR : Hid (∀ k ∈ rowOf v, k ∉ [rb]) := Lib.hid (fun k hk hm => by have := hwr.own.lt k hk; simp at hm; omega))
         go_must (have W0 := Lib.hid (hwr.kept k1 (by simp) (by simp)))
         go_must (have P := Lib.hid (P.out.kept k1 (by simp)))
         go_must (have K := Lib.hid (K.out.trans k1 (by simp)))
         go_must (have R : Hid (RWo w rb (some bs) w5) := Lib.hid ⟨G1, h1, by omega, fun k hk => (hG1 k hk).2, K.out, by show bs.length ≤ 1000000; have := HBL.out; omega⟩)
         go_must (clear h1 k1 hb1 hG1 hvl2 hwr hvb hvr hvk hlp))
      | (go_at_call 14
         go_must (refine (TRead_any R.out).mono ?_)
         go_must (rintro e w6 ⟨rfl, h1, k1⟩)
         go_must (rw [HEN.out.1])
         go_must (rw [HEN.out.2] at h1)
         go_must (have R := Lib.hid h1)
         go_must (have W0 := Lib.hid (W0.out.kept k1 (by simp; omega) HVR.out))
         go_must (have P := Lib.hid (P.out.kept k1 (by simp; omega)))
         go_must (have K := Lib.hid (K.out.trans k1 (fun i hi => .inr (by simp at hi; omega))))
         go_must (have hcx := P.out.cell)
         go_must (have hlx := P.out.lt)
         go_must (clear h1 k1))
      | (go_at_call 10
         go_must (refine (HX.out _ (K.out.alloc _)).mono ?_)
         go_must (rintro e w7 ⟨rfl, k1⟩)
         go_must (clear hcx hlx)
         go_must (have k2 := (((Kept.refl [] w6).alloc (.cells #[.int .u32 (t.src.toNat : Nat), .int .u32 (t.dst.toNat : Nat), .int .i64 t.proto, .int .i64 t.sport, .int .i64 t.dport] 24)).trans k1 (by simp)))
         go_must (have X := Lib.hid ((Blk.new w6 24 #[.int .u32 (t.src.toNat : Nat), .int .u32 (t.dst.toNat : Nat), .int .i64 t.proto, .int .i64 t.sport, .int .i64 t.dport]).kept k1 (by simp)))
         go_must (have R := Lib.hid (R.out.go k2))
         go_must (have W0 := Lib.hid (W0.out.kept k2 (by simp) (by simp)))
         go_must (have P := Lib.hid (P.out.kept k2 (by simp)))
         go_must (have K := Lib.hid (K.out.trans k2 (by simp)))
         go_must (clear k1 k2))
      | (go_at_call 24
         go_must (refine (HP.out _ K.out).mono ?_)
         go_must (rintro e w8 ⟨rfl, k1⟩)
         go_must (have X := Lib.hid (X.out.kept k1 (by simp)))
         go_must (have R := Lib.hid (R.out.go k1))
         go_must (have W0 := Lib.hid (W0.out.kept k1 (by simp) (by simp)))
         go_must (have P := Lib.hid (P.out.kept k1 (by simp)))
         go_must (have K := Lib.hid (K.out.trans k1 (by simp)))
         go_must (have hcx := P.out.cell)
         go_must (have hlx := P.out.lt)
         go_must (have hcy := X.out.cell)
         go_must (have hly := X.out.lt)
         go_must (have kA := (Kept.refl [] w8).alloc (.cells #[.int .u32 (t.src.toNat : Nat), .int .u32 (t.dst.toNat : Nat), .int .i64 t.proto, .int .i64 t.sport, .int .i64 t.dport] 24))
         go_must (have R := Lib.hid (R.out.go kA))
         go_must (have W0 := Lib.hid (W0.out.kept kA (by simp) (by simp)))
         go_must (clear k1 kA))
      | (go_at_call 15
         go_must (refine (Len_any _ _ _ _ W0.out).mono ?_)
         go_must (rintro e w9 ⟨rfl, rfl⟩)
         go_must (rw [HBL.out]))
      | (go_at_call 25
         go_must (refine (DEnd R.out).mono ?_)
         go_must (rintro e w9 ⟨rfl, rfl⟩)
         go_must (rw [HEE.out]))
      | (go_at_call 23
         go_must (refine (HT1.out _).mono ?_)
         go_must (rintro e w9 ⟨rfl, k1⟩)
         go_must (clear hcx hlx hcy hly)
         go_must (have K := Lib.hid ((K.out.alloc _).trans k1 (by simp)))
         go_must (clear k1))
      | (go_at_call 9
         go_must (refine (HA7.out _ K.out).mono ?_)
         go_must (rintro e w10 ⟨rfl, k1⟩)
         go_must (have K := Lib.hid (K.out.trans k1 (by simp)))
         go_must (clear k1)))
    go_ret
    exact ⟨rfl, K.out⟩
theorem in_ofI {n : Int} (h : (Lit.int .i64 n).wf = true) : inI n := by
  simp [Lit.wf, IntKind.min, IntKind.max, IntKind.signed, IntKind.bits] at h
  exact ⟨by omega, by omega⟩
set_option maxRecDepth 100000 in
theorem open_tupI {H : Type} {enc : TypeId × Value → H} {w : World} {v : Value} {d : DataW H} {p : List MemPlace} {base : Nat} (hv : Value.okWide Tryd.prog w .any base 24 v) (h : DataW.Trod enc Tryd.prog w 0 (fun _ => true) true 24 v d p) :
    ∃ t : TupD, v = .agg #[.int .u32 (t.src.toNat : Nat), .int .u32 (t.dst.toNat : Nat), .int .i64 t.proto, .int .i64 t.sport, .int .i64 t.dport] ∧ inI t.sport ∧ inI t.dport := by
  obtain ⟨cs, rfl, _⟩ := okWide_struct Tryd.underlying24 hv
  obtain ⟨fuel, hf⟩ := h
  obtain ⟨xs, n, _, hx, hlen, hxl, hf⟩ := DataW.trod_struct Tryd.underlying24 hf
  have hl3 : (Value.agg cs).cells.toList.length = 5 := hlen.trans (by kernel_rfl)
  have hcs : (Value.agg cs).cells.toList = cs.toList := by simp [Value.cells]
  rw [hcs] at hl3 hf
  rw [← Array.toArray_toList (xs := cs)]
  generalize cs.toList = cl at *
  match cl, hl3 with
  | [c0, c1, c2, c3, c4], _ =>
    match xs, hxl with
    | [x0, x1, x2, x3, x4], _ =>
      have f0 := hf 0 _ rfl
      have f1 := hf 1 _ rfl
      have f2 := hf 2 _ rfl
      have f3 := hf 3 _ rfl
      have f4 := hf 4 _ rfl
      have k3 : Tryd.prog.cellsOf 3 = 1 := by kernel_rfl
      have k22 : Tryd.prog.cellsOf 22 = 1 := by kernel_rfl
      simp [k3, k22] at f0 f1 f2 f3 f4
      obtain ⟨a, e0, _, wa⟩ := DataW.trod_int Tryd.underlying22 f0
      obtain ⟨b, e1, _, wb⟩ := DataW.trod_int Tryd.underlying22 f1
      obtain ⟨c, e2, _, _⟩ := DataW.trod_int Tryd.underlying3 f2
      obtain ⟨d, e3, _, wd⟩ := DataW.trod_int Tryd.underlying3 f3
      obtain ⟨e, e4, _, we⟩ := DataW.trod_int Tryd.underlying3 f4
      injection e0 with e0; injection e1 with e1; injection e2 with e2; injection e3 with e3; injection e4 with e4
      subst e0 e1 e2 e3 e4
      obtain ⟨x, rfl⟩ := u32_of wa
      obtain ⟨y, rfl⟩ := u32_of wb
      exact ⟨⟨x, y, c, d, e⟩, rfl, in_ofI wd, in_ofI we⟩
theorem open_u32I {H : Type} {enc : TypeId × Value → H} {w : World} {v : Value} {d : DataW H} {p : List MemPlace} {base : Nat} (hv : Value.okWide Tryd.prog w .any base 22 v) (h : DataW.Trod enc Tryd.prog w 0 (fun _ => true) true 22 v d p) : ∃ x : UInt32, v = .int .u32 (x.toNat : Nat) := by
  obtain ⟨n, rfl, rfl, rfl, hw⟩ := open_int Tryd.underlying22 hv h
  obtain ⟨x, rfl⟩ := u32_of hw
  exact ⟨x, rfl⟩
theorem TupleBack_walk {H : Type} {enc : TypeId × Value → H} {S : Prop} (W : World) (base : Nat) (v0 : Value) (d0 : DataW H) (p0 : List MemPlace) (v1 : Value) (d1 : DataW H) (p1 : List MemPlace)
    (hv0 : Value.okWide Tryd.prog W .any base 24 v0) (hv1 : Value.okWide Tryd.prog W .any base 22 v1)
    (h0 : DataW.Trod enc Tryd.prog W 0 (fun _ => true) true 24 v0 d0 p0) (h1 : DataW.Trod enc Tryd.prog W 0 (fun _ => true) true 22 v1 d1 p1) (_ : S) (ht : PowTab W) (m : Int) (hm : W.cell? ⟨0, 0, none⟩ = some (.int .i64 m)) :
    Calls Tryd.prog 6 #[v0, v1] W fun e W' => e = .returned (.bool true) ∧ Below W.heap.size W W' := by
  obtain ⟨a, rfl, ia⟩ := open_tupI hv0 h0
  obtain ⟨b, rfl⟩ := open_u32I hv1 h1
  exact (TupleBack_any W a b m ia.1 ia.2 hm ht).mono fun e W' ⟨h, hk⟩ => ⟨h, hk.below (Nat.le_refl _) (by simp)⟩
end Go.Proofs.YtflbeipnnmeiaaaDoor
