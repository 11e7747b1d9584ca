/-
  gens.number, gens.Parse at texts that a program wrote; the law's own sample.
-/
import Derived.Test.YtgndijdhmkphaaaGreatDoorTupH
import Derived.Test.YtgndijdhmkphaaaGreatDoorGenU
import Derived.Test.YtgndijdhmkphaaaGreatDoorGenR
import Derived.Test.YtgndijdhmkphaaaGreatDoorRecI
namespace Go.Proofs.YtgndijdhmkphaaaGreatDoor
set_option linter.unusedVariables false
section
open Go.RowKit Go.ChangeShapes Go.WideShapes Go.ChangeAt Go.Deep
set_option maxRecDepth 100000
set_option maxHeartbeats 1600000 in
theorem gNumber_good (w : World) (n : Int) (hn : inI n) (ht : PowTab w) :
    Calls Tryz.prog 26 #[.string (strOf (Lib.itoa n))] w fun e w' => e = .returned (.tuple #[.int .i64 n, .bool true]) ∧ Kept [] w w' := by
  have HT := Lib.hid (fun w' (hk : Kept [] w w') => tab_kept ht (g := 3) (by kernel_rfl) hk (by simp))
  obtain ⟨s, hs⟩ : ∃ s, strOf (Lib.itoa n) = s := ⟨_, rfl⟩
  have HS := Lib.hid hs
  rw [hs]
  have HN := Lib.hid hn
  clear hs ht hn
  go_enter Tryz.func26, Tryz.ntmps26
  go_wp2_with (first
    | (go_at_call 49
       go_must (refine (Atoi_at _ n s HS HN.out).mono ?_)
       go_must (rintro e w1 ⟨rfl, k1⟩)
       go_must (have K := Lib.hid k1)
       go_must (clear k1))
    | (go_at_call 43
       go_must (refine (Itoa_any _ _ HN.out.1 HN.out.2 (HT.out _ K.out)).mono ?_)
       go_must (rintro e w2 ⟨rfl, k1⟩)
       go_must (rw [HS.out])
       go_must (have K := Lib.hid (K.out.trans k1 (by simp)))
       go_must (clear k1)))
  go_ret2
  exact ⟨rfl, K.out⟩
structure BF (w : World) (b : BackD) (s sr s1 s2 s3 : ByteArray) : Prop where
  c1 : ∀ w', Kept [] w w' → Calls Tryz.prog 25 #[.string s, .string ⟨#[64]⟩] w' fun e w'' => e = .returned (.tuple #[.string s1, .string sr, .bool true]) ∧ Kept [] w' w''
  c2 : ∀ w', Kept [] w w' → Calls Tryz.prog 25 #[.string sr, .string ⟨#[42]⟩] w' fun e w'' => e = .returned (.tuple #[.string s2, .string s3, .bool true]) ∧ Kept [] w' w''
  n1 : ∀ w', Kept [] w w' → Calls Tryz.prog 26 #[.string s1] w' fun e w'' => e = .returned (.tuple #[.int .i64 b.id, .bool true]) ∧ Kept [] w' w''
  n2 : ∀ w', Kept [] w w' → Calls Tryz.prog 26 #[.string s3] w' fun e w'' => e = .returned (.tuple #[.int .i64 b.weight, .bool true]) ∧ Kept [] w' w''
  a1 : ∀ w', Kept [] w w' → Calls Tryz.prog 27 #[.string s2] w' fun e w'' => e = .returned (.tuple #[.int .u32 (b.addr.toNat : Nat), .bool true]) ∧ Kept [] w' w''
theorem BF.of (w : World) (b : BackD) (hb : numB b) (m : Int) (hm : w.cell? ⟨0, 0, none⟩ = some (.int .i64 m)) (ht : PowTab w) : ∃ sr s1 s2 s3, BF w b (strOf (backT b)) sr s1 s2 s3 := by
  have l1 := itoa_len hb.1
  have l2 := itoa_len hb.2
  have l3 := addrF_len b.addr
  exact ⟨strOf (addrF b.addr ++ (42 :: Lib.itoa b.weight)), strOf (Lib.itoa b.id), strOf (addrF b.addr), strOf (Lib.itoa b.weight),
    fun w' hk => Cut_at w' m _ _ _ _ (by have := backT_len hb.1 hb.2; omega) (m_kept hm hk) (backT_cut1 b),
    fun w' hk => Cut_at w' m _ _ _ _ (by simp only [List.length_append, List.length_cons]; omega) (m_kept hm hk) (backT_cut2 b),
    fun w' hk => gNumber_good w' b.id hb.1 (tab_kept ht (g := 3) (by kernel_rfl) hk (by simp)),
    fun w' hk => gNumber_good w' b.weight hb.2 (tab_kept ht (g := 3) (by kernel_rfl) hk (by simp)),
    fun w' hk => ParseAddr_good w' b.addr m (m_kept hm hk) (tab_kept ht (g := 3) (by kernel_rfl) hk (by simp))⟩
theorem strOf_ne {l : List UInt8} (h : l ≠ [45]) : ((strOf l).toList == [45]) = false := by
  refine beq_false_of_ne fun e => h ?_
  rw [Lib.toList_data, strOf_list] at e
  exact e
def mayL (l : List BackD) : List BackD := if mayBs l then l else []
set_option maxHeartbeats 6400000 in
theorem gParse_good (w : World) (l : List BackD) (hl : ∀ b ∈ l, numB b) (hlen : l.length ≤ 1000) (m : Int) (hm : w.cell? ⟨0, 0, none⟩ = some (.int .i64 m)) (ht : PowTab w) :
    Calls Tryz.prog 7 #[.string (strOf (textB l))] w fun e w' => ∃ v, e = .returned (.tuple #[v, .bool (mayBs l)]) ∧ BkV w w' v (mayL l) := by
  by_cases h0 : l = []
  · subst h0
    show Calls Tryz.prog 7 #[.string ⟨#[45]⟩] w fun e w' => ∃ v, e = .returned (.tuple #[v, .bool true]) ∧ BkV w w' v []
    go_enter Tryz.func7, Tryz.ntmps7
    go_wp2
    go_ret2
    exact ⟨_, rfl, LV.nil (Kept.refl _ _)⟩
  · have hd := strOf_ne (text_dash h0)
    have hsz : (strOf (textB l)).size ≤ 58000 := by
      rw [strOf_size, textB, if_neg h0]
      have := join_len (l := l) hl
      omega
    have HS0 := Tryz.strings_Split (strOf (textB l)) ⟨#[44]⟩ m w (by omega) hm (by decide)
    have hpos : l.length - 1 + 1 = l.length := by have := List.length_pos_iff.2 h0; omega
    rw [text_count h0, text_split h0, hpos] at HS0
    have HS := Lib.hid HS0
    have HBF := Lib.hid (fun b hb => BF.of w b (hl b hb) m hm ht)
    have HL := Lib.hid hl
    obtain ⟨s, hs⟩ : ∃ s, strOf (textB l) = s := ⟨_, rfl⟩
    rw [hs] at hd HS ⊢
    obtain ⟨n, hn⟩ : ∃ n, l.length = n := ⟨_, rfl⟩
    rw [hn] at HS hlen
    have LN := Lib.hid hn
    have i0 : 0 < n := by have := List.length_pos_iff.2 h0; omega
    clear HS0 hs hn hsz hm ht hpos hl
    by_cases h16 : 16 < n
    · have hres : mayBs l = false := by
        cases hc : mayBs l
        · rfl
        · have := (mayBs_iff.1 hc).1; have := LN.out; omega
      have HR := Lib.hid hres
      have i1 : (16 : Int) < (n : Int) := by omega
      clear hres
      go_enter Tryz.func7, Tryz.ntmps7
      go_wp2_with (go_at_call 24
                   go_must (refine HS.out.mono ?_)
                   go_must (rintro e w1 ⟨rfl, hw1⟩)
                   go_must (have K := Lib.hid (show Kept [] w w1 by rw [hw1]; exact (Kept.refl [] w).alloc _))
                   go_must (clear hw1))
      go_ret2
      exact ⟨_, by rw [HR.out]; rfl, by unfold mayL; rw [HR.out, if_neg (by simp)]; exact LV.nil K.out⟩
    · have i1 : ¬ (16 : Int) < (n : Int) := by omega
      go_enter Tryz.func7, Tryz.ntmps7
      go_wp2_with (go_at_call 24
                   go_must (refine HS.out.mono ?_)
                   go_must (rintro e w1 ⟨rfl, hw1⟩)
                   go_must (have L := Lib.hid (show Blk w1 w.heap.size 9 ((l.map fun b => strOf (backT b)).map Value.string).toArray by rw [hw1]; exact Blk.new _ _ _))
                   go_must (have K := Lib.hid (show Kept [] w w1 by rw [hw1]; exact (Kept.refl [] w).alloc _))
                   go_must (clear hw1))
      go_loopg [5, 29] n (fun g v i wr => ∃ k : Nat, k ≤ n ∧ g = n - k ∧ i = .int .i64 k ∧ BkO w w1 wr v (l.take k) ∧ Kept [] w1 wr)
      case atStart => exact ⟨0, by omega, by omega, rfl, BkO.nil K.out, Kept.refl _ _⟩
      case round =>
        obtain ⟨k, hk, rfl, rfl, hv, hkw⟩ := hrel
        have V := Lib.hid hv
        have KW := Lib.hid hkw
        obtain ⟨vA, vm, vc, rfl⟩ := hv.form
        clear hv hkw
        by_cases hlt : k < n
        · have hkl : k < l.length := by rw [LN.out]; exact hlt
          have hc := (L.out.kept KW.out (by simp)).cell k
          rw [show ((l.map fun b => strOf (backT b)).map Value.string).toArray[k]? = some (.string (strOf (backT (l[k]'hkl)))) by simp [List.getElem?_eq_getElem hkl]] at hc
          have HB := Lib.hid (show l.take (k + 1) = l.take k ++ [l[k]'hkl] by rw [List.take_add_one, List.getElem?_eq_getElem hkl]; rfl)
          obtain ⟨sr, s1, s2, s3, hbf⟩ := HBF.out _ (List.getElem_mem hkl)
          have HF := Lib.hid hbf
          generalize l[k]'hkl = b at *
          obtain ⟨sb, hsb⟩ : ∃ s, strOf (backT b) = s := ⟨_, rfl⟩
          rw [hsb] at HF hc
          have hlk : (l.take k).length ≤ 1000000 := by rw [List.length_take]; omega
          have KK := Lib.hid (K.out.trans KW.out (by simp))
          have hsz := KW.out.size
          clear hkl hbf hsb
          have i2 : (k : Int) < (n : Int) := by omega
          go_wp2_with (first
            | (go_at_call 25
               first
                 | (with_reducible refine (HF.out.c1 _ KK.out).mono ?_
                    rintro e w2 ⟨rfl, k1⟩
                    have V := Lib.hid (V.out.go k1)
                    have KK := Lib.hid (KK.out.trans k1 (by simp))
                    have KW := Lib.hid (KW.out.trans k1 (by simp))
                    clear k1 hc)
                 | (with_reducible refine (HF.out.c2 _ KK.out).mono ?_
                    rintro e w3 ⟨rfl, k1⟩
                    have V := Lib.hid (V.out.go k1)
                    have KK := Lib.hid (KK.out.trans k1 (by simp))
                    have KW := Lib.hid (KW.out.trans k1 (by simp))
                    clear k1))
            | (go_at_call 26
               first
                 | (with_reducible refine (HF.out.n1 _ KK.out).mono ?_
                    rintro e w4 ⟨rfl, k1⟩
                    have V := Lib.hid (V.out.go k1)
                    have KK := Lib.hid (KK.out.trans k1 (by simp))
                    have KW := Lib.hid (KW.out.trans k1 (by simp))
                    clear k1)
                 | (with_reducible refine (HF.out.n2 _ KK.out).mono ?_
                    rintro e w5 ⟨rfl, k1⟩
                    have V := Lib.hid (V.out.go k1)
                    have KK := Lib.hid (KK.out.trans k1 (by simp))
                    have KW := Lib.hid (KW.out.trans k1 (by simp))
                    clear k1))
            | (go_at_call 27
               go_must (refine (HF.out.a1 _ KK.out).mono ?_)
               go_must (rintro e w6 ⟨rfl, k1⟩)
               go_must (have V := Lib.hid (V.out.go k1))
               go_must (have KK := Lib.hid (KK.out.trans k1 (by simp)))
               go_must (have KW := Lib.hid (KW.out.trans k1 (by simp)))
               go_must (have hsz6 := KW.out.size)
               go_must (have hrow := V.out.row)
               go_must (clear k1))
            | (at_builtin
               refine wpList_bk (W := w) (W0 := w1) (w0 := w6) (bk := b) (l := l.take k) rfl (.tmp 78) (.tmp 83) rfl rfl hsz6 (by rfl) V.out (by rfl) hlk ?_
               intro A9 m9 c9 w9 h1 k9
               have V9 := Lib.hid (h1.cast HB.out.symm)
               have KW9 := Lib.hid (KW.out.trans k9 (fun i hi => .inr (hrow i hi)))
               clear h1 k9))
          go_roundg (n - (k + 1))
          case measure => omega
          case rel => exact ⟨k + 1, by omega, rfl, by go_num, V9.out, KW9.out⟩
        · have htk : l.take k = l := List.take_of_length_le (by rw [LN.out]; omega)
          have V1 := Lib.hid (show BkO w w1 wr (.slice vA vm vc) l by rw [← htk]; exact V.out)
          obtain ⟨G, hG, _⟩ := LV.arr BkOk V1.out.bk
          have HM := Lib.hid (gMay_any wr l hG)
          clear htk hG V
          cases hmay : mayBs l
          · have HR := Lib.hid hmay
            clear hmay
            go_wp2_with (go_at_call 11
                         go_must (refine HM.out.mono ?_)
                         go_must (rintro e w2 ⟨rfl, k1⟩)
                         go_must (rw [HR.out])
                         go_must (have KK := Lib.hid ((K.out.trans KW.out (by simp)).trans k1 (by simp)))
                         go_must (clear k1))
            go_ret2
            exact ⟨_, by rw [HR.out]; rfl, by unfold mayL; rw [HR.out, if_neg (by simp)]; exact LV.nil KK.out⟩
          · have HR := Lib.hid hmay
            clear hmay
            go_wp2_with (go_at_call 11
                         go_must (refine HM.out.mono ?_)
                         go_must (rintro e w2 ⟨rfl, k1⟩)
                         go_must (rw [HR.out])
                         go_must (have V2 := Lib.hid (V1.out.go k1))
                         go_must (clear k1))
            go_ret2
            exact ⟨_, by rw [HR.out]; rfl, by unfold mayL; rw [HR.out, if_pos rfl]; exact V2.out.bk⟩
end
end Go.Proofs.YtgndijdhmkphaaaGreatDoor
