
/-
  The document's disk: Append.
-/
import Derived.Test.YthdjdfdefibepaaRkJ
namespace Go.Proofs.Ythdjdfdefibepaa
open Go.RowKit Go.ChangeShapes Go.WideShapes Go.ChangeAt Go.Deep Go.MapKept
set_option linter.unusedVariables false

def fulM (M : RkD) (o : Option Nat) (n : Nat) : Bool :=
  decide (M.quota - (sizM M : Nat) < (n : Nat)) || (decide ((1048576 : Int) - ((o.map (lenF M.files)).getD 0 : Nat) < (n : Nat)) || (o.isNone && decide (200 ≤ M.now.length)))
def appM (M : RkD) (x b : Bs) : Int × RkD :=
  if (opM M).1 then (8, (opM M).2) else if namedD x = false then (1, (opM M).2) else if fulM M (getM M.now x) b.length = true then (7, (opM M).2) else
  match getM M.now x with
  | some i => (0, { (opM M).2 with files := appF M.files i b })
  | none => (0, { chgM { (opM M).2 with files := M.files ++ [(⟨[], 0⟩ : FlE)] } ⟨[], x, M.files.length⟩ with files := appF (M.files ++ [⟨[], 0⟩]) M.files.length b })
theorem appF_some {fs : List FlE} {i : Nat} {f : FlE} {b : Bs} (h : fs[i]? = some f) : appF fs i b = fs.set i ⟨f.b ++ b, f.sure⟩ := by unfold appF; rw [h]
section
variable {w w' : World} {p : Nat} {H : List Nat} {vs : List FvD} {M : RkD} {A1 A2 A3 A4 : Option Addr} {c1 c2 c3 c4 : Nat}
set_option maxHeartbeats 12800000 in
theorem rAppend_any (h : RkX w p H vs M A1 c1 A2 c2 A3 c3 A4 c4) (ok : OkM M) (x b : Bs) {Gb : List Nat} {B : Option Addr} {n d : Nat} (hb : RdB w Gb (.slice B n d) b) (hbp : p ∉ Gb) (hn : n ≤ 1000000) (hxl : x.length ≤ 1000000) :
    Calls Try.prog 47 #[.pointer (some ⟨p, 0, none⟩), .string (strOf x), .slice B n d] w fun e w' => e = .returned (.int .i64 (appM M x b).1) ∧ RkTo w p H (appM M x b).2 w' := by
  obtain ⟨fa, n1, f1, hop, hz⟩ := rop_gen h ok
  have HX := Lib.hid h
  have OK := Lib.hid ok
  have HOP := Lib.hid hz
  have HO := Lib.hid hop
  have HXL := Lib.hid hxl
  have HB := Lib.hid hb
  have HBP := Lib.hid hbp
  have bl := hb.len.1
  have BLN := Lib.hid bl
  obtain ⟨sz, hsz⟩ : ∃ sz, sizM M = sz := ⟨_, rfl⟩
  have SZ := Lib.hid hsz
  have szb := sum_len_le (fun f hf => (ok.sure f hf).2) M.now
  rw [show (M.now.map fun q => lenF M.files q.2).sum = sz from hsz] at szb
  have szn := ok.nl.1
  have szc : sz ≤ 1048576 * 400 := Nat.le_trans szb (Nat.mul_le_mul (Nat.le_refl _) szn)
  have qu1 := ok.quota.1
  have qu2 := ok.quota.2
  have NFL := Lib.hid ok.nl.2.2.2
  clear h ok hz hop
  clear hb hbp hxl szb hsz bl
  go_enter Try.func47, Try.ntmps47
  cases fa
  rotate_left
  · have HR := Lib.hid (show appM M x b = (8, { M with n := n1, fail := f1 }) by unfold appM; rw [HO.out]; rfl)
    go_wp2_with (first
      | (go_at_call 62
         refine HOP.out.mono ?_
         rintro e w1 ⟨rfl, h1, hk1⟩
         have X1 := Lib.hid h1
         have K1 := Lib.hid hk1
         have B1 := Lib.hid (show Blk w1 p 87 #[.slice A1 M.files.length c1, .slice A2 M.now.length c2, .slice A3 M.sur.length c3, .slice A4 M.ch.length c4, .int .i64 M.quota, .int .i64 n1, .int .i64 f1] from h1.blk)
         have hx1 := B1.out.cell
         have hf1 := B1.out.frozen
         have hl1 := B1.out.lt
         clear h1 hk1))
    go_ret
    exact ⟨by rw [HR.out]; rfl, by rw [HR.out]; exact X1.out.to K1.out⟩
  rcases hnm : namedD x with _ | _
  · have HNM := Lib.hid hnm
    have HR := Lib.hid (show appM M x b = (1, { M with n := n1, fail := f1 }) by unfold appM; rw [HO.out, hnm]; rfl)
    clear hnm
    go_wp2_with (first
      | (go_at_call 62
         refine HOP.out.mono ?_
         rintro e w1 ⟨rfl, h1, hk1⟩
         have X1 := Lib.hid h1
         have K1 := Lib.hid hk1
         have B1 := Lib.hid (show Blk w1 p 87 #[.slice A1 M.files.length c1, .slice A2 M.now.length c2, .slice A3 M.sur.length c3, .slice A4 M.ch.length c4, .int .i64 M.quota, .int .i64 n1, .int .i64 f1] from h1.blk)
         have hx1 := B1.out.cell
         have hf1 := B1.out.frozen
         have hl1 := B1.out.lt
         clear h1 hk1)
      | (go_at_call 63
         refine (rmay_any w1 x HXL.out).mono ?_
         rintro e w9 ⟨rfl, rfl⟩
         rw [HNM.out]))
    go_ret
    exact ⟨by rw [HR.out]; rfl, by rw [HR.out]; exact X1.out.to K1.out⟩
  have HNM := Lib.hid hnm
  have iwq : IntKind.i64.wrap (M.quota - (sz : Int)) = M.quota - (sz : Int) := IntWalk.i64_in _ (by omega)
  rcases hg : getM M.now x with _ | i
  · have HGF := Lib.hid (show fidx (getM M.now x) = -1 by rw [hg]; rfl)
    have iwm : IntKind.i64.wrap (1048576 : Int) = 1048576 := IntWalk.i64_in _ (by omega)
    by_cases ha : M.quota - (sz : Int) < (n : Int)
    · have HR := Lib.hid (show appM M x b = (7, { M with n := n1, fail := f1 }) by unfold appM; rw [HO.out, hnm, hg]; simp [fulM, SZ.out, BLN.out, ha])
      have j6 : M.quota - (sz : Int) < (n : Int) := ha
      clear hg hnm ha
      go_upto_region 9 with (first
        | (go_at_call 62
           refine HOP.out.mono ?_
           rintro e w1 ⟨rfl, h1, hk1⟩
           have X1 := Lib.hid h1
           have K1 := Lib.hid hk1
           have B1 := Lib.hid (show Blk w1 p 87 #[.slice A1 M.files.length c1, .slice A2 M.now.length c2, .slice A3 M.sur.length c3, .slice A4 M.ch.length c4, .int .i64 M.quota, .int .i64 n1, .int .i64 f1] from h1.blk)
           have hx1 := B1.out.cell
           have hf1 := B1.out.frozen
           have hl1 := B1.out.lt
           clear h1 hk1)
        | (go_at_call 63
           refine (rmay_any w1 x HXL.out).mono ?_
           rintro e w9 ⟨rfl, rfl⟩
           rw [HNM.out])
        | (go_at_call 64
           refine (rfind_any w1 X1.out.nw x).mono ?_
           rintro e w2 ⟨rfl, hk2⟩
           rw [HGF.out]
           have X2 := Lib.hid (X1.out.go hk2)
           have K2 := Lib.hid (K1.out.trans hk2 (by simp) : Kept [p] w w2)
           have B2 := Lib.hid (B1.out.kept hk2 (by simp))
           have hx2 := B2.out.cell
           have hf2 := B2.out.frozen
           have hl2 := B2.out.lt
           clear hk2 hx1 hf1 hl1))
      refine wp_region_held_drew (S := (fun w' => ∀ j, w'.cell? ⟨p, j, none⟩ = (#[.slice A1 M.files.length c1, .slice A2 M.now.length c2, .slice A3 M.sur.length c3, .slice A4 M.ch.length c4, .int .i64 M.quota, .int .i64 n1, .int .i64 f1] : Array Value)[j]?)) (by kernel_rfl) (fun j => hx2 j) (fun hHeld => ?_)
      refine wpAnyH_take (i := 0) (oi := ⟨some 31, _, _, _, _, _⟩) (v := ?vh1_1) rfl (by kernel_rfl) (by kernel_rfl) (by kernel_rfl) (fun _ _ _ h => h) (Or.inl ⟨by kernel_rfl, ?hyh1_1⟩) (by assumption) ?resth1_1
      case hyh1_1 => (intro w99 hSw; (try dsimp only at hSw); (try go_simp); (try with_reducible rfl); (try omega))
      simp only [Act.put, List.setIfInBounds_toArray, List.set_cons_zero, List.set_cons_succ]
      refine wpAnyH_take (i := 1) (oi := ⟨some 32, _, _, _, _, _⟩) (v := ?vh1_2) rfl (by kernel_rfl) (by kernel_rfl) (by kernel_rfl) (fun _ _ _ h => h) (Or.inl ⟨by kernel_rfl, ?hyh1_2⟩) (by assumption) ?resth1_2
      case hyh1_2 => (intro w99 hSw; (try dsimp only at hSw); (try go_simp); (try with_reducible rfl); (try omega))
      simp only [Act.put, List.setIfInBounds_toArray, List.set_cons_zero, List.set_cons_succ]
      refine wpAnyH_take (i := 2) (oi := ⟨some 33, _, _, _, _, _⟩) (v := ?vh1_3) rfl (by kernel_rfl) (by kernel_rfl) (by kernel_rfl) (fun _ _ _ h => h) (Or.inl ⟨by kernel_rfl, ?hyh1_3⟩) (by assumption) ?resth1_3
      case hyh1_3 => (intro w99 hSw; (try dsimp only at hSw); (try go_simp); (try with_reducible rfl); (try omega))
      simp only [Act.put, List.setIfInBounds_toArray, List.set_cons_zero, List.set_cons_succ]
      refine wpAnyH_take (i := 3) (oi := ⟨some 34, _, _, _, _, _⟩) (v := ?vh1_4) rfl (by kernel_rfl) (by kernel_rfl) (by kernel_rfl) (fun _ _ _ h => h) (Or.inl ⟨by kernel_rfl, ?hyh1_4⟩) (by assumption) ?resth1_4
      case hyh1_4 => (intro w99 hSw; (try dsimp only at hSw); (try go_simp); (try with_reducible rfl); (try omega))
      simp only [Act.put, List.setIfInBounds_toArray, List.set_cons_zero, List.set_cons_succ]
      refine wpAnyH_take (i := 4) (oi := ⟨some 35, _, _, _, _, _⟩) (v := ?vh1_5) rfl (by kernel_rfl) (by kernel_rfl) (by kernel_rfl) (fun _ _ _ h => h) (Or.inl ⟨by kernel_rfl, ?hyh1_5⟩) (by assumption) ?resth1_5
      case hyh1_5 => (intro w99 hSw; (try dsimp only at hSw); (try go_simp); (try with_reducible rfl); (try omega))
      simp only [Act.put, List.setIfInBounds_toArray, List.set_cons_zero, List.set_cons_succ]
      refine wpAnyH_take (i := 5) (oi := ⟨some 36, _, _, _, _, _⟩) (v := ?vh1_6) rfl (by kernel_rfl) (by kernel_rfl) (by kernel_rfl) (fun _ _ _ h => h) (Or.inl ⟨by kernel_rfl, ?hyh1_6⟩) (by assumption) ?resth1_6
      case hyh1_6 => (intro w99 hSw; (try dsimp only at hSw); (try go_simp); (try with_reducible rfl); (try omega))
      simp only [Act.put, List.setIfInBounds_toArray, List.set_cons_zero, List.set_cons_succ]
      refine wpAnyH_take (i := 6) (oi := ⟨some 37, _, _, _, _, _⟩) (v := ?vh1_7) rfl (by kernel_rfl) (by kernel_rfl) (by kernel_rfl) (fun _ _ _ h => h) (Or.inl ⟨by kernel_rfl, ?hyh1_7⟩) (by assumption) ?resth1_7
      case hyh1_7 => (intro w99 hSw; (try dsimp only at hSw); (try go_simp); (try with_reducible rfl); (try omega))
      simp only [Act.put, List.setIfInBounds_toArray, List.set_cons_zero, List.set_cons_succ]
      refine wpAnyH_ready (rs := [7]) (by kernel_rfl) (by simp) ?_
      refine AllReadyH.cons (o := ⟨some 38, _, _, _, _, _⟩) rfl (fun KQ hKQ => ?w7h1_8) AllReadyH.nil
      case w7h1_8 =>
        go_simp
        go_at_call 55
        have hz := rSize_any (X2.out.go ((Kept.refl [] w2).drew)) OK.out.now (fun f hf => (OK.out.sure f hf).2) (by have := OK.out.nl; simp only; omega)
        rw [show sizM { M with n := n1, fail := f1 } = sz from SZ.out] at hz
        with_reducible refine hz.mono ?_
        clear hz
        rintro e w3 ⟨rfl, hk3⟩
        have K3' := Lib.hid (Kept.trans ((Kept.refl [] w2).drew) hk3 (by simp))
        clear hk3
        go_wp2_with fail
        refine hKQ.out _ _ (fun j => (B2.out.kept K3'.out (by simp)).cell j) (fun hHeld9 => ?_)
        clear hKQ KQ hHeld
        have hHeld := hHeld9
        clear hHeld9
        try simp only [Act.put, List.setIfInBounds_toArray, List.set_cons_zero, List.set_cons_succ]
        refine wpAnyH_take (i := 8) (oi := ⟨some 39, _, _, _, _, _⟩) (v := ?vh1_9) rfl (by kernel_rfl) (by kernel_rfl) (by kernel_rfl) (fun _ _ _ h => h) (Or.inl ⟨by kernel_rfl, ?hyh1_9⟩) (by assumption) ?resth1_9
        case hyh1_9 => (intro w99 hSw; (try dsimp only at hSw); (try go_simp); (try with_reducible rfl); (try omega))
        simp only [Act.put, List.setIfInBounds_toArray, List.set_cons_zero, List.set_cons_succ]
        refine wpAnyH_take (i := 9) (oi := ⟨some 40, _, _, _, _, _⟩) (v := .bool true) rfl (by kernel_rfl) (by kernel_rfl) (by kernel_rfl) (fun _ _ _ h => h) (Or.inl ⟨by kernel_rfl, ?hyh1_10⟩) (by assumption) ?resth1_10
        case hyh1_10 => (intro w99 hSw; (try dsimp only at hSw); (try go_simp); (try with_reducible rfl); (try omega))
        simp only [Act.put, List.setIfInBounds_toArray, List.set_cons_zero, List.set_cons_succ]
        refine wpAnyH_take (i := 10) (oi := ⟨some 41, _, _, _, _, _⟩) (v := .bool true) rfl (by kernel_rfl) (by kernel_rfl) (by kernel_rfl) (fun _ _ _ h => h) (Or.inl ⟨by kernel_rfl, ?hyh1_11⟩) (by assumption) ?resth1_11
        case hyh1_11 => (intro w99 hSw; (try dsimp only at hSw); (try go_simp); (try with_reducible rfl); (try omega))
        simp only [Act.put, List.setIfInBounds_toArray, List.set_cons_zero, List.set_cons_succ]
        refine wpAnyH_take (i := 11) (oi := ⟨some 42, _, _, _, _, _⟩) (v := undef) rfl (by kernel_rfl) (by kernel_rfl) (by kernel_rfl) (fun _ _ _ h => h) (Or.inr ⟨by kernel_rfl, rfl⟩) (by assumption) ?resth1_12
        simp only [Act.put, List.setIfInBounds_toArray, List.set_cons_zero, List.set_cons_succ]
        refine wpAnyH_take (i := 12) (oi := ⟨some 43, _, _, _, _, _⟩) (v := undef) rfl (by kernel_rfl) (by kernel_rfl) (by kernel_rfl) (fun _ _ _ h => h) (Or.inr ⟨by kernel_rfl, rfl⟩) (by assumption) ?resth1_13
        simp only [Act.put, List.setIfInBounds_toArray, List.set_cons_zero, List.set_cons_succ]
        refine wpAnyH_take (i := 13) (oi := ⟨some 44, _, _, _, _, _⟩) (v := undef) rfl (by kernel_rfl) (by kernel_rfl) (by kernel_rfl) (fun _ _ _ h => h) (Or.inr ⟨by kernel_rfl, rfl⟩) (by assumption) ?resth1_14
        simp only [Act.put, List.setIfInBounds_toArray, List.set_cons_zero, List.set_cons_succ]
        refine wpAnyH_take (i := 14) (oi := ⟨some 45, _, _, _, _, _⟩) (v := undef) rfl (by kernel_rfl) (by kernel_rfl) (by kernel_rfl) (fun _ _ _ h => h) (Or.inr ⟨by kernel_rfl, rfl⟩) (by assumption) ?resth1_15
        simp only [Act.put, List.setIfInBounds_toArray, List.set_cons_zero, List.set_cons_succ]
        refine wpAnyH_take (i := 15) (oi := ⟨some 46, _, _, _, _, _⟩) (v := undef) rfl (by kernel_rfl) (by kernel_rfl) (by kernel_rfl) (fun _ _ _ h => h) (Or.inr ⟨by kernel_rfl, rfl⟩) (by assumption) ?resth1_16
        simp only [Act.put, List.setIfInBounds_toArray, List.set_cons_zero, List.set_cons_succ]
        refine wpAnyH_take (i := 16) (oi := ⟨some 47, _, _, _, _, _⟩) (v := .bool true) rfl (by kernel_rfl) (by kernel_rfl) (by kernel_rfl) (fun _ _ _ h => h) (Or.inl ⟨by kernel_rfl, ?hyh1_17⟩) (by assumption) ?resth1_17
        case hyh1_17 => (intro w99 hSw; (try dsimp only at hSw); (try go_simp); (try with_reducible rfl); (try omega))
        simp only [Act.put, List.setIfInBounds_toArray, List.set_cons_zero, List.set_cons_succ]
        refine wpAnyH_take (i := 17) (oi := ⟨some 48, _, _, _, _, _⟩) (v := .bool true) rfl (by kernel_rfl) (by kernel_rfl) (by kernel_rfl) (fun _ _ _ h => h) (Or.inl ⟨by kernel_rfl, ?hyh1_18⟩) (by assumption) ?resth1_18
        case hyh1_18 => (intro w99 hSw; (try dsimp only at hSw); (try go_simp); (try with_reducible rfl); (try omega))
        simp only [Act.put, List.setIfInBounds_toArray, List.set_cons_zero, List.set_cons_succ]
        refine wpAnyH_take (i := 18) (oi := ⟨some 49, _, _, _, _, _⟩) (v := undef) rfl (by kernel_rfl) (by kernel_rfl) (by kernel_rfl) (fun _ _ _ h => h) (Or.inr ⟨by kernel_rfl, rfl⟩) (by assumption) ?resth1_19
        simp only [Act.put, List.setIfInBounds_toArray, List.set_cons_zero, List.set_cons_succ]
        refine wpAnyH_take (i := 19) (oi := ⟨some 50, _, _, _, _, _⟩) (v := undef) rfl (by kernel_rfl) (by kernel_rfl) (by kernel_rfl) (fun _ _ _ h => h) (Or.inr ⟨by kernel_rfl, rfl⟩) (by assumption) ?resth1_20
        simp only [Act.put, List.setIfInBounds_toArray, List.set_cons_zero, List.set_cons_succ]
        refine wpAnyH_take (i := 20) (oi := ⟨some 51, _, _, _, _, _⟩) (v := undef) rfl (by kernel_rfl) (by kernel_rfl) (by kernel_rfl) (fun _ _ _ h => h) (Or.inr ⟨by kernel_rfl, rfl⟩) (by assumption) ?resth1_21
        simp only [Act.put, List.setIfInBounds_toArray, List.set_cons_zero, List.set_cons_succ]
        refine wpAnyH_take (i := 21) (oi := ⟨some 52, _, _, _, _, _⟩) (v := undef) rfl (by kernel_rfl) (by kernel_rfl) (by kernel_rfl) (fun _ _ _ h => h) (Or.inr ⟨by kernel_rfl, rfl⟩) (by assumption) ?resth1_22
        simp only [Act.put, List.setIfInBounds_toArray, List.set_cons_zero, List.set_cons_succ]
        refine wpAnyH_take (i := 22) (oi := ⟨some 53, _, _, _, _, _⟩) (v := undef) rfl (by kernel_rfl) (by kernel_rfl) (by kernel_rfl) (fun _ _ _ h => h) (Or.inr ⟨by kernel_rfl, rfl⟩) (by assumption) ?resth1_23
        simp only [Act.put, List.setIfInBounds_toArray, List.set_cons_zero, List.set_cons_succ]
        refine wpAnyH_take (i := 23) (oi := ⟨some 54, _, _, _, _, _⟩) (v := undef) rfl (by kernel_rfl) (by kernel_rfl) (by kernel_rfl) (fun _ _ _ h => h) (Or.inr ⟨by kernel_rfl, rfl⟩) (by assumption) ?resth1_24
        simp only [Act.put, List.setIfInBounds_toArray, List.set_cons_zero, List.set_cons_succ]
        refine wpAnyH_take (i := 24) (oi := ⟨some 55, _, _, _, _, _⟩) (v := undef) rfl (by kernel_rfl) (by kernel_rfl) (by kernel_rfl) (fun _ _ _ h => h) (Or.inr ⟨by kernel_rfl, rfl⟩) (by assumption) ?resth1_25
        simp only [Act.put, List.setIfInBounds_toArray, List.set_cons_zero, List.set_cons_succ]
        refine wpAnyH_take (i := 25) (oi := ⟨some 56, _, _, _, _, _⟩) (v := undef) rfl (by kernel_rfl) (by kernel_rfl) (by kernel_rfl) (fun _ _ _ h => h) (Or.inr ⟨by kernel_rfl, rfl⟩) (by assumption) ?resth1_26
        simp only [Act.put, List.setIfInBounds_toArray, List.set_cons_zero, List.set_cons_succ]
        refine wpAnyH_take (i := 26) (oi := ⟨some 57, _, _, _, _, _⟩) (v := undef) rfl (by kernel_rfl) (by kernel_rfl) (by kernel_rfl) (fun _ _ _ h => h) (Or.inr ⟨by kernel_rfl, rfl⟩) (by assumption) ?resth1_27
        simp only [Act.put, List.setIfInBounds_toArray, List.set_cons_zero, List.set_cons_succ]
        refine wpAnyH_take (i := 27) (oi := ⟨some 58, _, _, _, _, _⟩) (v := undef) rfl (by kernel_rfl) (by kernel_rfl) (by kernel_rfl) (fun _ _ _ h => h) (Or.inr ⟨by kernel_rfl, rfl⟩) (by assumption) ?resth1_28
        simp only [Act.put, List.setIfInBounds_toArray, List.set_cons_zero, List.set_cons_succ]
        refine wpAnyH_take (i := 28) (oi := ⟨some 59, _, _, _, _, _⟩) (v := .bool true) rfl (by kernel_rfl) (by kernel_rfl) (by kernel_rfl) (fun _ _ _ h => h) (Or.inl ⟨by kernel_rfl, ?hyh1_29⟩) (by assumption) ?resth1_29
        case hyh1_29 => (intro w99 hSw; (try dsimp only at hSw); (try go_simp); (try with_reducible rfl); (try omega))
        simp only [Act.put, List.setIfInBounds_toArray, List.set_cons_zero, List.set_cons_succ]
        refine wpAnyH_done (by kernel_rfl) ?_ _
        clear hHeld
        have X3 := Lib.hid (X2.out.go K3'.out)
        have K3 := Lib.hid (K2.out.trans K3'.out (by simp) : Kept [p] w w3)
        have B3 := Lib.hid (B2.out.kept K3'.out (by simp))
        have hx3 := B3.out.cell
        have hf3 := B3.out.frozen
        have hl3 := B3.out.lt
        clear hx2 hf2 hl2
        go_wp2
        go_ret
        exact ⟨by rw [HR.out]; rfl, by rw [HR.out]; exact X3.out.to K3.out⟩
    have hb1 : ¬ (1048576 : Int) < (n : Int) := by omega
    by_cases hfu : 200 ≤ M.now.length
    · have HR := Lib.hid (show appM M x b = (7, { M with n := n1, fail := f1 }) by unfold appM; rw [HO.out, hnm, hg]; simp [fulM, SZ.out, BLN.out, hfu])
      have j6 : ¬ M.quota - (sz : Int) < (n : Int) := ha
      have j7 : ¬ (1048576 : Int) < (n : Int) := hb1
      have j8 : (200 : Int) ≤ (M.now.length : Int) := by omega
      clear hg hnm hfu
      go_upto_region 9 with (first
        | (go_at_call 62
           refine HOP.out.mono ?_
           rintro e w1 ⟨rfl, h1, hk1⟩
           have X1 := Lib.hid h1
           have K1 := Lib.hid hk1
           have B1 := Lib.hid (show Blk w1 p 87 #[.slice A1 M.files.length c1, .slice A2 M.now.length c2, .slice A3 M.sur.length c3, .slice A4 M.ch.length c4, .int .i64 M.quota, .int .i64 n1, .int .i64 f1] from h1.blk)
           have hx1 := B1.out.cell
           have hf1 := B1.out.frozen
           have hl1 := B1.out.lt
           clear h1 hk1)
        | (go_at_call 63
           refine (rmay_any w1 x HXL.out).mono ?_
           rintro e w9 ⟨rfl, rfl⟩
           rw [HNM.out])
        | (go_at_call 64
           refine (rfind_any w1 X1.out.nw x).mono ?_
           rintro e w2 ⟨rfl, hk2⟩
           rw [HGF.out]
           have X2 := Lib.hid (X1.out.go hk2)
           have K2 := Lib.hid (K1.out.trans hk2 (by simp) : Kept [p] w w2)
           have B2 := Lib.hid (B1.out.kept hk2 (by simp))
           have hx2 := B2.out.cell
           have hf2 := B2.out.frozen
           have hl2 := B2.out.lt
           clear hk2 hx1 hf1 hl1))
      refine wp_region_held_drew (S := (fun w' => ∀ j, w'.cell? ⟨p, j, none⟩ = (#[.slice A1 M.files.length c1, .slice A2 M.now.length c2, .slice A3 M.sur.length c3, .slice A4 M.ch.length c4, .int .i64 M.quota, .int .i64 n1, .int .i64 f1] : Array Value)[j]?)) (by kernel_rfl) (fun j => hx2 j) (fun hHeld => ?_)
      refine wpAnyH_take (i := 0) (oi := ⟨some 31, _, _, _, _, _⟩) (v := ?vh2_1) rfl (by kernel_rfl) (by kernel_rfl) (by kernel_rfl) (fun _ _ _ h => h) (Or.inl ⟨by kernel_rfl, ?hyh2_1⟩) (by assumption) ?resth2_1
      case hyh2_1 => (intro w99 hSw; (try dsimp only at hSw); (try go_simp); (try with_reducible rfl); (try omega))
      simp only [Act.put, List.setIfInBounds_toArray, List.set_cons_zero, List.set_cons_succ]
      refine wpAnyH_take (i := 1) (oi := ⟨some 32, _, _, _, _, _⟩) (v := ?vh2_2) rfl (by kernel_rfl) (by kernel_rfl) (by kernel_rfl) (fun _ _ _ h => h) (Or.inl ⟨by kernel_rfl, ?hyh2_2⟩) (by assumption) ?resth2_2
      case hyh2_2 => (intro w99 hSw; (try dsimp only at hSw); (try go_simp); (try with_reducible rfl); (try omega))
      simp only [Act.put, List.setIfInBounds_toArray, List.set_cons_zero, List.set_cons_succ]
      refine wpAnyH_take (i := 2) (oi := ⟨some 33, _, _, _, _, _⟩) (v := ?vh2_3) rfl (by kernel_rfl) (by kernel_rfl) (by kernel_rfl) (fun _ _ _ h => h) (Or.inl ⟨by kernel_rfl, ?hyh2_3⟩) (by assumption) ?resth2_3
      case hyh2_3 => (intro w99 hSw; (try dsimp only at hSw); (try go_simp); (try with_reducible rfl); (try omega))
      simp only [Act.put, List.setIfInBounds_toArray, List.set_cons_zero, List.set_cons_succ]
      refine wpAnyH_take (i := 3) (oi := ⟨some 34, _, _, _, _, _⟩) (v := ?vh2_4) rfl (by kernel_rfl) (by kernel_rfl) (by kernel_rfl) (fun _ _ _ h => h) (Or.inl ⟨by kernel_rfl, ?hyh2_4⟩) (by assumption) ?resth2_4
      case hyh2_4 => (intro w99 hSw; (try dsimp only at hSw); (try go_simp); (try with_reducible rfl); (try omega))
      simp only [Act.put, List.setIfInBounds_toArray, List.set_cons_zero, List.set_cons_succ]
      refine wpAnyH_take (i := 4) (oi := ⟨some 35, _, _, _, _, _⟩) (v := ?vh2_5) rfl (by kernel_rfl) (by kernel_rfl) (by kernel_rfl) (fun _ _ _ h => h) (Or.inl ⟨by kernel_rfl, ?hyh2_5⟩) (by assumption) ?resth2_5
      case hyh2_5 => (intro w99 hSw; (try dsimp only at hSw); (try go_simp); (try with_reducible rfl); (try omega))
      simp only [Act.put, List.setIfInBounds_toArray, List.set_cons_zero, List.set_cons_succ]
      refine wpAnyH_take (i := 5) (oi := ⟨some 36, _, _, _, _, _⟩) (v := ?vh2_6) rfl (by kernel_rfl) (by kernel_rfl) (by kernel_rfl) (fun _ _ _ h => h) (Or.inl ⟨by kernel_rfl, ?hyh2_6⟩) (by assumption) ?resth2_6
      case hyh2_6 => (intro w99 hSw; (try dsimp only at hSw); (try go_simp); (try with_reducible rfl); (try omega))
      simp only [Act.put, List.setIfInBounds_toArray, List.set_cons_zero, List.set_cons_succ]
      refine wpAnyH_take (i := 6) (oi := ⟨some 37, _, _, _, _, _⟩) (v := ?vh2_7) rfl (by kernel_rfl) (by kernel_rfl) (by kernel_rfl) (fun _ _ _ h => h) (Or.inl ⟨by kernel_rfl, ?hyh2_7⟩) (by assumption) ?resth2_7
      case hyh2_7 => (intro w99 hSw; (try dsimp only at hSw); (try go_simp); (try with_reducible rfl); (try omega))
      simp only [Act.put, List.setIfInBounds_toArray, List.set_cons_zero, List.set_cons_succ]
      refine wpAnyH_ready (rs := [7]) (by kernel_rfl) (by simp) ?_
      refine AllReadyH.cons (o := ⟨some 38, _, _, _, _, _⟩) rfl (fun KQ hKQ => ?w7h2_8) AllReadyH.nil
      case w7h2_8 =>
        go_simp
        go_at_call 55
        have hz := rSize_any (X2.out.go ((Kept.refl [] w2).drew)) OK.out.now (fun f hf => (OK.out.sure f hf).2) (by have := OK.out.nl; simp only; omega)
        rw [show sizM { M with n := n1, fail := f1 } = sz from SZ.out] at hz
        with_reducible refine hz.mono ?_
        clear hz
        rintro e w3 ⟨rfl, hk3⟩
        have K3' := Lib.hid (Kept.trans ((Kept.refl [] w2).drew) hk3 (by simp))
        clear hk3
        go_wp2_with fail
        refine hKQ.out _ _ (fun j => (B2.out.kept K3'.out (by simp)).cell j) (fun hHeld9 => ?_)
        clear hKQ KQ hHeld
        have hHeld := hHeld9
        clear hHeld9
        try simp only [Act.put, List.setIfInBounds_toArray, List.set_cons_zero, List.set_cons_succ]
        refine wpAnyH_take (i := 8) (oi := ⟨some 39, _, _, _, _, _⟩) (v := ?vh2_9) rfl (by kernel_rfl) (by kernel_rfl) (by kernel_rfl) (fun _ _ _ h => h) (Or.inl ⟨by kernel_rfl, ?hyh2_9⟩) (by assumption) ?resth2_9
        case hyh2_9 => (intro w99 hSw; (try dsimp only at hSw); (try go_simp); (try with_reducible rfl); (try omega))
        simp only [Act.put, List.setIfInBounds_toArray, List.set_cons_zero, List.set_cons_succ]
        refine wpAnyH_take (i := 9) (oi := ⟨some 40, _, _, _, _, _⟩) (v := .bool false) rfl (by kernel_rfl) (by kernel_rfl) (by kernel_rfl) (fun _ _ _ h => h) (Or.inl ⟨by kernel_rfl, ?hyh2_10⟩) (by assumption) ?resth2_10
        case hyh2_10 => (intro w99 hSw; (try dsimp only at hSw); (try go_simp); (try with_reducible rfl); (try omega))
        simp only [Act.put, List.setIfInBounds_toArray, List.set_cons_zero, List.set_cons_succ]
        refine wpAnyH_take (i := 10) (oi := ⟨some 41, _, _, _, _, _⟩) (v := .bool false) rfl (by kernel_rfl) (by kernel_rfl) (by kernel_rfl) (fun _ _ _ h => h) (Or.inl ⟨by kernel_rfl, ?hyh2_11⟩) (by assumption) ?resth2_11
        case hyh2_11 => (intro w99 hSw; (try dsimp only at hSw); (try go_simp); (try with_reducible rfl); (try omega))
        simp only [Act.put, List.setIfInBounds_toArray, List.set_cons_zero, List.set_cons_succ]
        refine wpAnyH_take (i := 11) (oi := ⟨some 42, _, _, _, _, _⟩) (v := ?vh2_12) rfl (by kernel_rfl) (by kernel_rfl) (by kernel_rfl) (fun _ _ _ h => h) (Or.inl ⟨by kernel_rfl, ?hyh2_12⟩) (by assumption) ?resth2_12
        case hyh2_12 => (intro w99 hSw; (try dsimp only at hSw); (try go_simp); (try with_reducible rfl); (try omega))
        simp only [Act.put, List.setIfInBounds_toArray, List.set_cons_zero, List.set_cons_succ]
        refine wpAnyH_take (i := 12) (oi := ⟨some 43, _, _, _, _, _⟩) (v := ?vh2_13) rfl (by kernel_rfl) (by kernel_rfl) (by kernel_rfl) (fun _ _ _ h => h) (Or.inl ⟨by kernel_rfl, ?hyh2_13⟩) (by assumption) ?resth2_13
        case hyh2_13 => (intro w99 hSw; (try dsimp only at hSw); (try go_simp); (try with_reducible rfl); (try omega))
        simp only [Act.put, List.setIfInBounds_toArray, List.set_cons_zero, List.set_cons_succ]
        refine wpAnyH_take (i := 13) (oi := ⟨some 44, _, _, _, _, _⟩) (v := ?vh2_14) rfl (by kernel_rfl) (by kernel_rfl) (by kernel_rfl) (fun _ _ _ h => h) (Or.inl ⟨by kernel_rfl, ?hyh2_14⟩) (by assumption) ?resth2_14
        case hyh2_14 => (intro w99 hSw; (try dsimp only at hSw); (try go_simp); (try with_reducible rfl); (try omega))
        simp only [Act.put, List.setIfInBounds_toArray, List.set_cons_zero, List.set_cons_succ]
        refine wpAnyH_take (i := 14) (oi := ⟨some 45, _, _, _, _, _⟩) (v := ?vh2_15) rfl (by kernel_rfl) (by kernel_rfl) (by kernel_rfl) (fun _ _ _ h => h) (Or.inl ⟨by kernel_rfl, ?hyh2_15⟩) (by assumption) ?resth2_15
        case hyh2_15 => (intro w99 hSw; (try dsimp only at hSw); (try go_simp); (try with_reducible rfl); (try omega))
        simp only [Act.put, List.setIfInBounds_toArray, List.set_cons_zero, List.set_cons_succ]
        refine wpAnyH_take (i := 15) (oi := ⟨some 46, _, _, _, _, _⟩) (v := .bool false) rfl (by kernel_rfl) (by kernel_rfl) (by kernel_rfl) (fun _ _ _ h => h) (Or.inl ⟨by kernel_rfl, ?hyh2_16⟩) (by assumption) ?resth2_16
        case hyh2_16 => (intro w99 hSw; (try dsimp only at hSw); (try go_simp); (try with_reducible rfl); (try omega))
        simp only [Act.put, List.setIfInBounds_toArray, List.set_cons_zero, List.set_cons_succ]
        refine wpAnyH_take (i := 16) (oi := ⟨some 47, _, _, _, _, _⟩) (v := .bool false) rfl (by kernel_rfl) (by kernel_rfl) (by kernel_rfl) (fun _ _ _ h => h) (Or.inl ⟨by kernel_rfl, ?hyh2_17⟩) (by assumption) ?resth2_17
        case hyh2_17 => (intro w99 hSw; (try dsimp only at hSw); (try go_simp); (try with_reducible rfl); (try omega))
        simp only [Act.put, List.setIfInBounds_toArray, List.set_cons_zero, List.set_cons_succ]
        refine wpAnyH_take (i := 17) (oi := ⟨some 48, _, _, _, _, _⟩) (v := .bool false) rfl (by kernel_rfl) (by kernel_rfl) (by kernel_rfl) (fun _ _ _ h => h) (Or.inl ⟨by kernel_rfl, ?hyh2_18⟩) (by assumption) ?resth2_18
        case hyh2_18 => (intro w99 hSw; (try dsimp only at hSw); (try go_simp); (try with_reducible rfl); (try omega))
        simp only [Act.put, List.setIfInBounds_toArray, List.set_cons_zero, List.set_cons_succ]
        refine wpAnyH_take (i := 18) (oi := ⟨some 49, _, _, _, _, _⟩) (v := ?vh2_19) rfl (by kernel_rfl) (by kernel_rfl) (by kernel_rfl) (fun _ _ _ h => h) (Or.inl ⟨by kernel_rfl, ?hyh2_19⟩) (by assumption) ?resth2_19
        case hyh2_19 => (intro w99 hSw; (try dsimp only at hSw); (try go_simp); (try with_reducible rfl); (try omega))
        simp only [Act.put, List.setIfInBounds_toArray, List.set_cons_zero, List.set_cons_succ]
        refine wpAnyH_take (i := 19) (oi := ⟨some 50, _, _, _, _, _⟩) (v := .bool true) rfl (by kernel_rfl) (by kernel_rfl) (by kernel_rfl) (fun _ _ _ h => h) (Or.inl ⟨by kernel_rfl, ?hyh2_20⟩) (by assumption) ?resth2_20
        case hyh2_20 => (intro w99 hSw; (try dsimp only at hSw); (try go_simp); (try with_reducible rfl); (try omega))
        simp only [Act.put, List.setIfInBounds_toArray, List.set_cons_zero, List.set_cons_succ]
        refine wpAnyH_take (i := 20) (oi := ⟨some 51, _, _, _, _, _⟩) (v := .bool true) rfl (by kernel_rfl) (by kernel_rfl) (by kernel_rfl) (fun _ _ _ h => h) (Or.inl ⟨by kernel_rfl, ?hyh2_21⟩) (by assumption) ?resth2_21
        case hyh2_21 => (intro w99 hSw; (try dsimp only at hSw); (try go_simp); (try with_reducible rfl); (try omega))
        simp only [Act.put, List.setIfInBounds_toArray, List.set_cons_zero, List.set_cons_succ]
        refine wpAnyH_take (i := 21) (oi := ⟨some 52, _, _, _, _, _⟩) (v := ?vh2_22) rfl (by kernel_rfl) (by kernel_rfl) (by kernel_rfl) (fun _ _ _ h => h) (Or.inl ⟨by kernel_rfl, ?hyh2_22⟩) (by assumption) ?resth2_22
        case hyh2_22 => (intro w99 hSw; (try dsimp only at hSw); (try go_simp); (try with_reducible rfl); (try omega))
        simp only [Act.put, List.setIfInBounds_toArray, List.set_cons_zero, List.set_cons_succ]
        refine wpAnyH_take (i := 22) (oi := ⟨some 53, _, _, _, _, _⟩) (v := ?vh2_23) rfl (by kernel_rfl) (by kernel_rfl) (by kernel_rfl) (fun _ _ _ h => h) (Or.inl ⟨by kernel_rfl, ?hyh2_23⟩) (by assumption) ?resth2_23
        case hyh2_23 => (intro w99 hSw; (try dsimp only at hSw); (try go_simp); (try with_reducible rfl); (try omega))
        simp only [Act.put, List.setIfInBounds_toArray, List.set_cons_zero, List.set_cons_succ]
        refine wpAnyH_take (i := 23) (oi := ⟨some 54, _, _, _, _, _⟩) (v := ?vh2_24) rfl (by kernel_rfl) (by kernel_rfl) (by kernel_rfl) (fun _ _ _ h => h) (Or.inl ⟨by kernel_rfl, ?hyh2_24⟩) (by assumption) ?resth2_24
        case hyh2_24 => (intro w99 hSw; (try dsimp only at hSw); (try go_simp); (try with_reducible rfl); (try omega))
        simp only [Act.put, List.setIfInBounds_toArray, List.set_cons_zero, List.set_cons_succ]
        refine wpAnyH_take (i := 24) (oi := ⟨some 55, _, _, _, _, _⟩) (v := ?vh2_25) rfl (by kernel_rfl) (by kernel_rfl) (by kernel_rfl) (fun _ _ _ h => h) (Or.inl ⟨by kernel_rfl, ?hyh2_25⟩) (by assumption) ?resth2_25
        case hyh2_25 => (intro w99 hSw; (try dsimp only at hSw); (try go_simp); (try with_reducible rfl); (try omega))
        simp only [Act.put, List.setIfInBounds_toArray, List.set_cons_zero, List.set_cons_succ]
        refine wpAnyH_take (i := 25) (oi := ⟨some 56, _, _, _, _, _⟩) (v := ?vh2_26) rfl (by kernel_rfl) (by kernel_rfl) (by kernel_rfl) (fun _ _ _ h => h) (Or.inl ⟨by kernel_rfl, ?hyh2_26⟩) (by assumption) ?resth2_26
        case hyh2_26 => (intro w99 hSw; (try dsimp only at hSw); (try go_simp); (try with_reducible rfl); (try omega))
        simp only [Act.put, List.setIfInBounds_toArray, List.set_cons_zero, List.set_cons_succ]
        refine wpAnyH_take (i := 26) (oi := ⟨some 57, _, _, _, _, _⟩) (v := .bool true) rfl (by kernel_rfl) (by kernel_rfl) (by kernel_rfl) (fun _ _ _ h => h) (Or.inl ⟨by kernel_rfl, ?hyh2_27⟩) (by assumption) ?resth2_27
        case hyh2_27 => (intro w99 hSw; (try dsimp only at hSw); (try go_simp); (try with_reducible rfl); (try omega))
        simp only [Act.put, List.setIfInBounds_toArray, List.set_cons_zero, List.set_cons_succ]
        refine wpAnyH_take (i := 27) (oi := ⟨some 58, _, _, _, _, _⟩) (v := .bool true) rfl (by kernel_rfl) (by kernel_rfl) (by kernel_rfl) (fun _ _ _ h => h) (Or.inl ⟨by kernel_rfl, ?hyh2_28⟩) (by assumption) ?resth2_28
        case hyh2_28 => (intro w99 hSw; (try dsimp only at hSw); (try go_simp); (try with_reducible rfl); (try omega))
        simp only [Act.put, List.setIfInBounds_toArray, List.set_cons_zero, List.set_cons_succ]
        refine wpAnyH_take (i := 28) (oi := ⟨some 59, _, _, _, _, _⟩) (v := .bool true) rfl (by kernel_rfl) (by kernel_rfl) (by kernel_rfl) (fun _ _ _ h => h) (Or.inl ⟨by kernel_rfl, ?hyh2_29⟩) (by assumption) ?resth2_29
        case hyh2_29 => (intro w99 hSw; (try dsimp only at hSw); (try go_simp); (try with_reducible rfl); (try omega))
        simp only [Act.put, List.setIfInBounds_toArray, List.set_cons_zero, List.set_cons_succ]
        refine wpAnyH_done (by kernel_rfl) ?_ _
        clear hHeld
        have X3 := Lib.hid (X2.out.go K3'.out)
        have K3 := Lib.hid (K2.out.trans K3'.out (by simp) : Kept [p] w w3)
        have B3 := Lib.hid (B2.out.kept K3'.out (by simp))
        have hx3 := B3.out.cell
        have hf3 := B3.out.frozen
        have hl3 := B3.out.lt
        clear hx2 hf2 hl2
        go_wp2
        go_ret
        exact ⟨by rw [HR.out]; rfl, by rw [HR.out]; exact X3.out.to K3.out⟩
    have HR := Lib.hid (show appM M x b = (0, { chgM { M with n := n1, fail := f1, files := M.files ++ [(⟨[], 0⟩ : FlE)] } ⟨[], x, M.files.length⟩ with files := (M.files ++ [(⟨[], 0⟩ : FlE)]).set M.files.length (⟨[] ++ b, 0⟩ : FlE) }) by
      unfold appM
      rw [HO.out, hnm, hg, appF_some (f := ⟨[], 0⟩) (by simp)]
      simp [fulM, SZ.out, BLN.out, ha, hb1, hfu])
    have j6 : ¬ M.quota - (sz : Int) < (n : Int) := ha
    have j7 : ¬ (1048576 : Int) < (n : Int) := hb1
    have j8 : ¬ (200 : Int) ≤ (M.now.length : Int) := by omega
    clear hg hnm ha hb1 hfu
    go_upto_region 9 with (first
      | (go_at_call 62
         refine HOP.out.mono ?_
         rintro e w1 ⟨rfl, h1, hk1⟩
         have X1 := Lib.hid h1
         have K1 := Lib.hid hk1
         have B1 := Lib.hid (show Blk w1 p 87 #[.slice A1 M.files.length c1, .slice A2 M.now.length c2, .slice A3 M.sur.length c3, .slice A4 M.ch.length c4, .int .i64 M.quota, .int .i64 n1, .int .i64 f1] from h1.blk)
         have hx1 := B1.out.cell
         have hf1 := B1.out.frozen
         have hl1 := B1.out.lt
         clear h1 hk1)
      | (go_at_call 63
         refine (rmay_any w1 x HXL.out).mono ?_
         rintro e w9 ⟨rfl, rfl⟩
         rw [HNM.out])
      | (go_at_call 64
         refine (rfind_any w1 X1.out.nw x).mono ?_
         rintro e w2 ⟨rfl, hk2⟩
         rw [HGF.out]
         have X2 := Lib.hid (X1.out.go hk2)
         have K2 := Lib.hid (K1.out.trans hk2 (by simp) : Kept [p] w w2)
         have B2 := Lib.hid (B1.out.kept hk2 (by simp))
         have hx2 := B2.out.cell
         have hf2 := B2.out.frozen
         have hl2 := B2.out.lt
         clear hk2 hx1 hf1 hl1))
    refine wp_region_held_drew (S := (fun w' => ∀ j, w'.cell? ⟨p, j, none⟩ = (#[.slice A1 M.files.length c1, .slice A2 M.now.length c2, .slice A3 M.sur.length c3, .slice A4 M.ch.length c4, .int .i64 M.quota, .int .i64 n1, .int .i64 f1] : Array Value)[j]?)) (by kernel_rfl) (fun j => hx2 j) (fun hHeld => ?_)
    refine wpAnyH_take (i := 0) (oi := ⟨some 31, _, _, _, _, _⟩) (v := ?vh3_1) rfl (by kernel_rfl) (by kernel_rfl) (by kernel_rfl) (fun _ _ _ h => h) (Or.inl ⟨by kernel_rfl, ?hyh3_1⟩) (by assumption) ?resth3_1
    case hyh3_1 => (intro w99 hSw; (try dsimp only at hSw); (try go_simp); (try with_reducible rfl); (try omega))
    simp only [Act.put, List.setIfInBounds_toArray, List.set_cons_zero, List.set_cons_succ]
    refine wpAnyH_take (i := 1) (oi := ⟨some 32, _, _, _, _, _⟩) (v := ?vh3_2) rfl (by kernel_rfl) (by kernel_rfl) (by kernel_rfl) (fun _ _ _ h => h) (Or.inl ⟨by kernel_rfl, ?hyh3_2⟩) (by assumption) ?resth3_2
    case hyh3_2 => (intro w99 hSw; (try dsimp only at hSw); (try go_simp); (try with_reducible rfl); (try omega))
    simp only [Act.put, List.setIfInBounds_toArray, List.set_cons_zero, List.set_cons_succ]
    refine wpAnyH_take (i := 2) (oi := ⟨some 33, _, _, _, _, _⟩) (v := ?vh3_3) rfl (by kernel_rfl) (by kernel_rfl) (by kernel_rfl) (fun _ _ _ h => h) (Or.inl ⟨by kernel_rfl, ?hyh3_3⟩) (by assumption) ?resth3_3
    case hyh3_3 => (intro w99 hSw; (try dsimp only at hSw); (try go_simp); (try with_reducible rfl); (try omega))
    simp only [Act.put, List.setIfInBounds_toArray, List.set_cons_zero, List.set_cons_succ]
    refine wpAnyH_take (i := 3) (oi := ⟨some 34, _, _, _, _, _⟩) (v := ?vh3_4) rfl (by kernel_rfl) (by kernel_rfl) (by kernel_rfl) (fun _ _ _ h => h) (Or.inl ⟨by kernel_rfl, ?hyh3_4⟩) (by assumption) ?resth3_4
    case hyh3_4 => (intro w99 hSw; (try dsimp only at hSw); (try go_simp); (try with_reducible rfl); (try omega))
    simp only [Act.put, List.setIfInBounds_toArray, List.set_cons_zero, List.set_cons_succ]
    refine wpAnyH_take (i := 4) (oi := ⟨some 35, _, _, _, _, _⟩) (v := ?vh3_5) rfl (by kernel_rfl) (by kernel_rfl) (by kernel_rfl) (fun _ _ _ h => h) (Or.inl ⟨by kernel_rfl, ?hyh3_5⟩) (by assumption) ?resth3_5
    case hyh3_5 => (intro w99 hSw; (try dsimp only at hSw); (try go_simp); (try with_reducible rfl); (try omega))
    simp only [Act.put, List.setIfInBounds_toArray, List.set_cons_zero, List.set_cons_succ]
    refine wpAnyH_take (i := 5) (oi := ⟨some 36, _, _, _, _, _⟩) (v := ?vh3_6) rfl (by kernel_rfl) (by kernel_rfl) (by kernel_rfl) (fun _ _ _ h => h) (Or.inl ⟨by kernel_rfl, ?hyh3_6⟩) (by assumption) ?resth3_6
    case hyh3_6 => (intro w99 hSw; (try dsimp only at hSw); (try go_simp); (try with_reducible rfl); (try omega))
    simp only [Act.put, List.setIfInBounds_toArray, List.set_cons_zero, List.set_cons_succ]
    refine wpAnyH_take (i := 6) (oi := ⟨some 37, _, _, _, _, _⟩) (v := ?vh3_7) rfl (by kernel_rfl) (by kernel_rfl) (by kernel_rfl) (fun _ _ _ h => h) (Or.inl ⟨by kernel_rfl, ?hyh3_7⟩) (by assumption) ?resth3_7
    case hyh3_7 => (intro w99 hSw; (try dsimp only at hSw); (try go_simp); (try with_reducible rfl); (try omega))
    simp only [Act.put, List.setIfInBounds_toArray, List.set_cons_zero, List.set_cons_succ]
    refine wpAnyH_ready (rs := [7]) (by kernel_rfl) (by simp) ?_
    refine AllReadyH.cons (o := ⟨some 38, _, _, _, _, _⟩) rfl (fun KQ hKQ => ?w7h3_8) AllReadyH.nil
    case w7h3_8 =>
      go_simp
      go_at_call 55
      have hz := rSize_any (X2.out.go ((Kept.refl [] w2).drew)) OK.out.now (fun f hf => (OK.out.sure f hf).2) (by have := OK.out.nl; simp only; omega)
      rw [show sizM { M with n := n1, fail := f1 } = sz from SZ.out] at hz
      with_reducible refine hz.mono ?_
      clear hz
      rintro e w3 ⟨rfl, hk3⟩
      have K3' := Lib.hid (Kept.trans ((Kept.refl [] w2).drew) hk3 (by simp))
      clear hk3
      go_wp2_with fail
      refine hKQ.out _ _ (fun j => (B2.out.kept K3'.out (by simp)).cell j) (fun hHeld9 => ?_)
      clear hKQ KQ hHeld
      have hHeld := hHeld9
      clear hHeld9
      try simp only [Act.put, List.setIfInBounds_toArray, List.set_cons_zero, List.set_cons_succ]
      refine wpAnyH_take (i := 8) (oi := ⟨some 39, _, _, _, _, _⟩) (v := ?vh3_9) rfl (by kernel_rfl) (by kernel_rfl) (by kernel_rfl) (fun _ _ _ h => h) (Or.inl ⟨by kernel_rfl, ?hyh3_9⟩) (by assumption) ?resth3_9
      case hyh3_9 => (intro w99 hSw; (try dsimp only at hSw); (try go_simp); (try with_reducible rfl); (try omega))
      simp only [Act.put, List.setIfInBounds_toArray, List.set_cons_zero, List.set_cons_succ]
      refine wpAnyH_take (i := 9) (oi := ⟨some 40, _, _, _, _, _⟩) (v := .bool false) rfl (by kernel_rfl) (by kernel_rfl) (by kernel_rfl) (fun _ _ _ h => h) (Or.inl ⟨by kernel_rfl, ?hyh3_10⟩) (by assumption) ?resth3_10
      case hyh3_10 => (intro w99 hSw; (try dsimp only at hSw); (try go_simp); (try with_reducible rfl); (try omega))
      simp only [Act.put, List.setIfInBounds_toArray, List.set_cons_zero, List.set_cons_succ]
      refine wpAnyH_take (i := 10) (oi := ⟨some 41, _, _, _, _, _⟩) (v := .bool false) rfl (by kernel_rfl) (by kernel_rfl) (by kernel_rfl) (fun _ _ _ h => h) (Or.inl ⟨by kernel_rfl, ?hyh3_11⟩) (by assumption) ?resth3_11
      case hyh3_11 => (intro w99 hSw; (try dsimp only at hSw); (try go_simp); (try with_reducible rfl); (try omega))
      simp only [Act.put, List.setIfInBounds_toArray, List.set_cons_zero, List.set_cons_succ]
      refine wpAnyH_take (i := 11) (oi := ⟨some 42, _, _, _, _, _⟩) (v := ?vh3_12) rfl (by kernel_rfl) (by kernel_rfl) (by kernel_rfl) (fun _ _ _ h => h) (Or.inl ⟨by kernel_rfl, ?hyh3_12⟩) (by assumption) ?resth3_12
      case hyh3_12 => (intro w99 hSw; (try dsimp only at hSw); (try go_simp); (try with_reducible rfl); (try omega))
      simp only [Act.put, List.setIfInBounds_toArray, List.set_cons_zero, List.set_cons_succ]
      refine wpAnyH_take (i := 12) (oi := ⟨some 43, _, _, _, _, _⟩) (v := ?vh3_13) rfl (by kernel_rfl) (by kernel_rfl) (by kernel_rfl) (fun _ _ _ h => h) (Or.inl ⟨by kernel_rfl, ?hyh3_13⟩) (by assumption) ?resth3_13
      case hyh3_13 => (intro w99 hSw; (try dsimp only at hSw); (try go_simp); (try with_reducible rfl); (try omega))
      simp only [Act.put, List.setIfInBounds_toArray, List.set_cons_zero, List.set_cons_succ]
      refine wpAnyH_take (i := 13) (oi := ⟨some 44, _, _, _, _, _⟩) (v := ?vh3_14) rfl (by kernel_rfl) (by kernel_rfl) (by kernel_rfl) (fun _ _ _ h => h) (Or.inl ⟨by kernel_rfl, ?hyh3_14⟩) (by assumption) ?resth3_14
      case hyh3_14 => (intro w99 hSw; (try dsimp only at hSw); (try go_simp); (try with_reducible rfl); (try omega))
      simp only [Act.put, List.setIfInBounds_toArray, List.set_cons_zero, List.set_cons_succ]
      refine wpAnyH_take (i := 14) (oi := ⟨some 45, _, _, _, _, _⟩) (v := ?vh3_15) rfl (by kernel_rfl) (by kernel_rfl) (by kernel_rfl) (fun _ _ _ h => h) (Or.inl ⟨by kernel_rfl, ?hyh3_15⟩) (by assumption) ?resth3_15
      case hyh3_15 => (intro w99 hSw; (try dsimp only at hSw); (try go_simp); (try with_reducible rfl); (try omega))
      simp only [Act.put, List.setIfInBounds_toArray, List.set_cons_zero, List.set_cons_succ]
      refine wpAnyH_take (i := 15) (oi := ⟨some 46, _, _, _, _, _⟩) (v := .bool false) rfl (by kernel_rfl) (by kernel_rfl) (by kernel_rfl) (fun _ _ _ h => h) (Or.inl ⟨by kernel_rfl, ?hyh3_16⟩) (by assumption) ?resth3_16
      case hyh3_16 => (intro w99 hSw; (try dsimp only at hSw); (try go_simp); (try with_reducible rfl); (try omega))
      simp only [Act.put, List.setIfInBounds_toArray, List.set_cons_zero, List.set_cons_succ]
      refine wpAnyH_take (i := 16) (oi := ⟨some 47, _, _, _, _, _⟩) (v := .bool false) rfl (by kernel_rfl) (by kernel_rfl) (by kernel_rfl) (fun _ _ _ h => h) (Or.inl ⟨by kernel_rfl, ?hyh3_17⟩) (by assumption) ?resth3_17
      case hyh3_17 => (intro w99 hSw; (try dsimp only at hSw); (try go_simp); (try with_reducible rfl); (try omega))
      simp only [Act.put, List.setIfInBounds_toArray, List.set_cons_zero, List.set_cons_succ]
      refine wpAnyH_take (i := 17) (oi := ⟨some 48, _, _, _, _, _⟩) (v := .bool false) rfl (by kernel_rfl) (by kernel_rfl) (by kernel_rfl) (fun _ _ _ h => h) (Or.inl ⟨by kernel_rfl, ?hyh3_18⟩) (by assumption) ?resth3_18
      case hyh3_18 => (intro w99 hSw; (try dsimp only at hSw); (try go_simp); (try with_reducible rfl); (try omega))
      simp only [Act.put, List.setIfInBounds_toArray, List.set_cons_zero, List.set_cons_succ]
      refine wpAnyH_take (i := 18) (oi := ⟨some 49, _, _, _, _, _⟩) (v := ?vh3_19) rfl (by kernel_rfl) (by kernel_rfl) (by kernel_rfl) (fun _ _ _ h => h) (Or.inl ⟨by kernel_rfl, ?hyh3_19⟩) (by assumption) ?resth3_19
      case hyh3_19 => (intro w99 hSw; (try dsimp only at hSw); (try go_simp); (try with_reducible rfl); (try omega))
      simp only [Act.put, List.setIfInBounds_toArray, List.set_cons_zero, List.set_cons_succ]
      refine wpAnyH_take (i := 19) (oi := ⟨some 50, _, _, _, _, _⟩) (v := .bool true) rfl (by kernel_rfl) (by kernel_rfl) (by kernel_rfl) (fun _ _ _ h => h) (Or.inl ⟨by kernel_rfl, ?hyh3_20⟩) (by assumption) ?resth3_20
      case hyh3_20 => (intro w99 hSw; (try dsimp only at hSw); (try go_simp); (try with_reducible rfl); (try omega))
      simp only [Act.put, List.setIfInBounds_toArray, List.set_cons_zero, List.set_cons_succ]
      refine wpAnyH_take (i := 20) (oi := ⟨some 51, _, _, _, _, _⟩) (v := .bool true) rfl (by kernel_rfl) (by kernel_rfl) (by kernel_rfl) (fun _ _ _ h => h) (Or.inl ⟨by kernel_rfl, ?hyh3_21⟩) (by assumption) ?resth3_21
      case hyh3_21 => (intro w99 hSw; (try dsimp only at hSw); (try go_simp); (try with_reducible rfl); (try omega))
      simp only [Act.put, List.setIfInBounds_toArray, List.set_cons_zero, List.set_cons_succ]
      refine wpAnyH_take (i := 21) (oi := ⟨some 52, _, _, _, _, _⟩) (v := ?vh3_22) rfl (by kernel_rfl) (by kernel_rfl) (by kernel_rfl) (fun _ _ _ h => h) (Or.inl ⟨by kernel_rfl, ?hyh3_22⟩) (by assumption) ?resth3_22
      case hyh3_22 => (intro w99 hSw; (try dsimp only at hSw); (try go_simp); (try with_reducible rfl); (try omega))
      simp only [Act.put, List.setIfInBounds_toArray, List.set_cons_zero, List.set_cons_succ]
      refine wpAnyH_take (i := 22) (oi := ⟨some 53, _, _, _, _, _⟩) (v := ?vh3_23) rfl (by kernel_rfl) (by kernel_rfl) (by kernel_rfl) (fun _ _ _ h => h) (Or.inl ⟨by kernel_rfl, ?hyh3_23⟩) (by assumption) ?resth3_23
      case hyh3_23 => (intro w99 hSw; (try dsimp only at hSw); (try go_simp); (try with_reducible rfl); (try omega))
      simp only [Act.put, List.setIfInBounds_toArray, List.set_cons_zero, List.set_cons_succ]
      refine wpAnyH_take (i := 23) (oi := ⟨some 54, _, _, _, _, _⟩) (v := ?vh3_24) rfl (by kernel_rfl) (by kernel_rfl) (by kernel_rfl) (fun _ _ _ h => h) (Or.inl ⟨by kernel_rfl, ?hyh3_24⟩) (by assumption) ?resth3_24
      case hyh3_24 => (intro w99 hSw; (try dsimp only at hSw); (try go_simp); (try with_reducible rfl); (try omega))
      simp only [Act.put, List.setIfInBounds_toArray, List.set_cons_zero, List.set_cons_succ]
      refine wpAnyH_take (i := 24) (oi := ⟨some 55, _, _, _, _, _⟩) (v := ?vh3_25) rfl (by kernel_rfl) (by kernel_rfl) (by kernel_rfl) (fun _ _ _ h => h) (Or.inl ⟨by kernel_rfl, ?hyh3_25⟩) (by assumption) ?resth3_25
      case hyh3_25 => (intro w99 hSw; (try dsimp only at hSw); (try go_simp); (try with_reducible rfl); (try omega))
      simp only [Act.put, List.setIfInBounds_toArray, List.set_cons_zero, List.set_cons_succ]
      refine wpAnyH_take (i := 25) (oi := ⟨some 56, _, _, _, _, _⟩) (v := ?vh3_26) rfl (by kernel_rfl) (by kernel_rfl) (by kernel_rfl) (fun _ _ _ h => h) (Or.inl ⟨by kernel_rfl, ?hyh3_26⟩) (by assumption) ?resth3_26
      case hyh3_26 => (intro w99 hSw; (try dsimp only at hSw); (try go_simp); (try with_reducible rfl); (try omega))
      simp only [Act.put, List.setIfInBounds_toArray, List.set_cons_zero, List.set_cons_succ]
      refine wpAnyH_take (i := 26) (oi := ⟨some 57, _, _, _, _, _⟩) (v := .bool false) rfl (by kernel_rfl) (by kernel_rfl) (by kernel_rfl) (fun _ _ _ h => h) (Or.inl ⟨by kernel_rfl, ?hyh3_27⟩) (by assumption) ?resth3_27
      case hyh3_27 => (intro w99 hSw; (try dsimp only at hSw); (try go_simp); (try with_reducible rfl); (try omega))
      simp only [Act.put, List.setIfInBounds_toArray, List.set_cons_zero, List.set_cons_succ]
      refine wpAnyH_take (i := 27) (oi := ⟨some 58, _, _, _, _, _⟩) (v := .bool false) rfl (by kernel_rfl) (by kernel_rfl) (by kernel_rfl) (fun _ _ _ h => h) (Or.inl ⟨by kernel_rfl, ?hyh3_28⟩) (by assumption) ?resth3_28
      case hyh3_28 => (intro w99 hSw; (try dsimp only at hSw); (try go_simp); (try with_reducible rfl); (try omega))
      simp only [Act.put, List.setIfInBounds_toArray, List.set_cons_zero, List.set_cons_succ]
      refine wpAnyH_take (i := 28) (oi := ⟨some 59, _, _, _, _, _⟩) (v := .bool false) rfl (by kernel_rfl) (by kernel_rfl) (by kernel_rfl) (fun _ _ _ h => h) (Or.inl ⟨by kernel_rfl, ?hyh3_29⟩) (by assumption) ?resth3_29
      case hyh3_29 => (intro w99 hSw; (try dsimp only at hSw); (try go_simp); (try with_reducible rfl); (try omega))
      simp only [Act.put, List.setIfInBounds_toArray, List.set_cons_zero, List.set_cons_succ]
      refine wpAnyH_done (by kernel_rfl) ?_ _
      clear hHeld
      have X3 := Lib.hid (X2.out.go K3'.out)
      have K3 := Lib.hid (K2.out.trans K3'.out (by simp) : Kept [p] w w3)
      have B3 := Lib.hid (B2.out.kept K3'.out (by simp))
      have hx3 := B3.out.cell
      have hf3 := B3.out.frozen
      have hl3 := B3.out.lt
      clear hx2 hf2 hl2
      have FL1 := Lib.hid (show ([] : List FvD).length + vs.length ≤ 100000 by rw [X3.out.fb.1]; have := NFL.out; simp only [List.length_nil]; omega)
      have FL2 := Lib.hid (show ([] ++ vs : List FvD).length + [(⟨none, 0, 0, 0⟩ : FvD)].length ≤ 100000 by rw [List.nil_append, X3.out.fb.1]; have := NFL.out; simp only [List.length_cons, List.length_nil]; omega)
      go_upto_region 14 with (first
        | (at_builtin
           apply wpList_lvs (W := w3) (l2 := vs) FvOk elem_fv (fun h => h) (by omega) rfl (.const (.slice none 0 0)) (.tmp 71) rfl
           case hs => exact rfl
           case hN => exact LV.nil (Kept.refl [] w3)
           case hx => exact rfl
           case hb => exact X3.out.fv
           case hl => exact FL1.out
           intro A7 m7 c7 w7 h7 k7 r7
           have V7 := Lib.hid h7
           have K7 := Lib.hid (show Kept [] w3 w7 from k7)
           clear h7 k7 r7)
        | (at_builtin
           have hN8 := LV.go FvOk V7.out ((Kept.refl [] w7).alloc (.cells #[.slice none 0 0, .int .i64 0] 96))
           apply wpList_lvs (W := w3) (l2 := [⟨none, 0, 0, 0⟩]) FvOk elem_fv (fun h => h) (by omega) rfl (.tmp 72) (.tmp 74) rfl
           case hs => exact rfl
           case hN => exact hN8
           case hx => exact rfl
           case hb => exact arr_blk (Blk.new _ _ _) rfl rfl
           case hl => exact FL2.out
           intro A8 m8 c8 w8 h8 k8 r8
           have V8 := Lib.hid h8
           have K8 := Lib.hid ((K7.out.alloc _).trans k8 (fun q hm => .inr (r8 q hm).1) : Kept [] w3 w8)
           have B8 := Lib.hid (B3.out.kept K8.out (by simp))
           have hx8 := B8.out.cell
           have hf8 := B8.out.frozen
           have hl8 := B8.out.lt
           clear h8 k8 r8 hN8))
      have T8 := Lib.hid (show RkTo w p H { M with n := n1, fail := f1, files := M.files ++ [(⟨[], 0⟩ : FlE)] } (w8.setCell ⟨p, 0, none⟩ (.slice A8 m8 c8)) from by
        have kz := (Kept.refl [p] w8).setCell (p := ⟨p, 0, none⟩) (.inl (by simp)) (.slice A8 m8 c8)
        have bz := B8.out.set 0 (.slice A8 m8 c8)
        obtain ⟨q1, q2⟩ := lv_new (w := w3) (p := p) (H := H) FvOk (fun h => h) V8.out (Kept.refl [p] w3) kz X3.out.blk.lt
        have e8 : m8 = (M.files ++ [(⟨[], 0⟩ : FlE)]).length := by
          have h1 := (arr_lens q1).1
          rw [List.nil_append, List.length_append, X3.out.fb.1] at h1
          rw [List.length_append, ← h1]
          rfl
        subst e8
        have kall : Kept [p] w3 _ := (K8.out.mono (by simp)).trans kz (fun i hi => .inl hi)
        have hd := X3.out.hd
        refine RkTo.from (RkTo.mk (M' := { M with n := n1, fail := f1, files := M.files ++ [(⟨[], 0⟩ : FlE)] }) (G1 := rowOf (.slice A8 (M.files ++ [(⟨[], 0⟩ : FlE)]).length c8)) (G2 := H) (G3 := H) (G4 := H) (G5 := H) X3.out.blk.lt X3.out.pn kall bz q1 (X3.out.nw.kept kall hd) (X3.out.sr.kept kall hd) (X3.out.cv.kept kall hd) ?_ q2 (X3.out.newG kall) (X3.out.newG kall) (X3.out.newG kall) (X3.out.newG kall)) K3.out (fun k hk => .inl hk)
        have fb0 := X3.out.fb.kept kall hd
        refine ⟨by simp [fb0.1], fun k q f h1 h2 => ?_⟩
        rw [List.nil_append] at h1
        by_cases hk : k < M.files.length
        · rw [List.getElem?_append_left (by rw [fb0.1]; exact hk)] at h1
          rw [List.getElem?_append_left hk] at h2
          exact fb0.2 k q f h1 h2
        · have hk2 := (List.getElem?_eq_some_iff.1 h2).1
          rw [List.length_append, List.length_singleton] at hk2
          obtain rfl : k = M.files.length := by omega
          rw [List.getElem?_append_right (by rw [fb0.1]; exact Nat.le_refl _), show M.files.length - vs.length = 0 by rw [fb0.1]; exact Nat.sub_self _] at h1
          rw [List.getElem?_append_right (Nat.le_refl _), Nat.sub_self] at h2
          simp at h1 h2
          subst h1 h2
          exact ⟨RdB.nilD _ _, rfl⟩)
      clear hx8 hf8 hl8
      generalize w8.setCell ⟨p, 0, none⟩ (.slice A8 m8 c8) = w9 at *
      obtain ⟨H9, vs9, E1, d1, E2, d2, E3, d3, E4, d4, x9, k9, hh9⟩ := T8.out
      have X9 := Lib.hid x9
      have K9 := Lib.hid k9
      have HH9 := Lib.hid hh9
      clear x9 k9 hh9 T8
      go_upto_region 15 with (first
        | (go_at_call 65
           have hz : Calls Try.prog 65 #[.pointer (some ⟨p, 0, none⟩), .agg #[.string ⟨#[]⟩, .string (strOf x), .int .i64 (M.files.length : Nat)]] w9 _ := rchange_any X9.out ⟨[], x, M.files.length⟩ (by have := OK.out.nl; simp only; omega) (by have := OK.out.nl; simp only; omega)
           refine hz.mono ?_
           clear hz
           rintro e wB ⟨rfl, h3⟩
           have TB := Lib.hid (RkTo.from (H := H) h3 K9.out HH9.out)
           clear h3))
      obtain ⟨HQB, vsB, E1, d1, E2, d2, E3, d3, E4, d4, xB, kB, hhB⟩ := TB.out
      obtain ⟨i, hi⟩ : ∃ i, M.files.length = i := ⟨_, rfl⟩
      have HI := Lib.hid hi
      obtain ⟨MB, hMB⟩ : ∃ MB, chgM { M with n := n1, fail := f1, files := M.files ++ [(⟨[], 0⟩ : FlE)] } ⟨[], x, M.files.length⟩ = MB := ⟨_, rfl⟩
      have hBf : MB.files = M.files ++ [(⟨[], 0⟩ : FlE)] := by rw [← hMB]; rfl
      rw [hMB] at xB
      have HRB := Lib.hid (show appM M x b = (0, { MB with files := MB.files.set i (⟨[] ++ b, 0⟩ : FlE) }) by rw [HR.out, ← hMB, ← hi]; rfl)
      obtain ⟨f, hf⟩ : ∃ f : FlE, f = ⟨[], 0⟩ := ⟨_, rfl⟩
      have hfi : MB.files[i]? = some f := by rw [hBf, ← hi, hf]; simp
      have hFB := Lib.hid (show (0, { MB with files := MB.files.set i (⟨[] ++ b, 0⟩ : FlE) }) = ((0 : Int), { MB with files := MB.files.set i ⟨[] ++ f.b ++ b, f.sure⟩ }) by rw [hf]; rfl)
      have NFB := Lib.hid (show MB.files.length ≤ 401 by rw [hBf]; have := NFL.out; simp; omega)
      have SFB := Lib.hid (show f.b.length ≤ 1048576 by rw [hf]; simp)
      rw [hi]
      clear hf hBf hMB hi X9 K9 HH9 HR TB
      have XB := Lib.hid xB
      have KB := Lib.hid kB
      have HHB := Lib.hid hhB
      have hil := (List.getElem?_eq_some_iff.1 hfi).1
      have HILB := Lib.hid hil
      obtain ⟨v, hv⟩ : ∃ v, vsB[i]? = some v := ⟨_, List.getElem?_eq_getElem (by rw [xB.fb.1]; exact hil)⟩
      obtain ⟨g1, o1, hA1, hg1B, hgG, e0B, e1B⟩ := xB.fv.at hv
      subst hA1
      have hgHB := Lib.hid hgG
      have FBX := Lib.hid (xB.fb.2 i v f hv hfi)
      have SRCB := Lib.hid FBX.out.1
      have VSU := Lib.hid FBX.out.2
      have vm2 := SRCB.out.len.2.1
      have vm3 := SRCB.out.len.2.2.1
      unfold maxLen at vm3
      have RBB := Lib.hid (HB.out.kept kB (fun q hm hp => HBP.out (by simp at hp; subst hp; exact hm)))
      have SLB := Lib.hid (show ([] : Bs).length + f.b.length ≤ 1000000000 by have := SFB.out; simp only [List.length_nil]; omega)
      have SLC := Lib.hid (show ([] ++ f.b : Bs).length + b.length ≤ 1000000000 by have := SFB.out; have := BLN.out; rw [List.nil_append]; omega)
      have BB := Lib.hid xB.blk
      obtain ⟨NF, hNF⟩ : ∃ NF, MB.files.length = NF := ⟨_, rfl⟩
      have hxB : ∀ j, wB.cell? ⟨p, j, none⟩ = (#[.slice (some ⟨g1, o1, none⟩) NF d1, .slice E2 MB.now.length d2, .slice E3 MB.sur.length d3, .slice E4 MB.ch.length d4, .int .i64 MB.quota, .int .i64 MB.n, .int .i64 MB.fail] : Array Value)[j]? := by rw [← hNF]; exact BB.out.cell
      have jf0 : (0 : Int) ≤ (i : Int) := by omega
      have jf1 : (i : Int) < (NF : Int) := by omega
      rw [hNF] at BB
      clear xB kB hhB hil hv hgG hfi hNF
      refine wp_region_held_drew (S := (fun w' => w'.cell? ⟨g1, o1 + i * 2, none⟩ = some (.slice v.A v.m v.c) ∧ w'.cell? ⟨g1, o1 + i * 2 + 1, none⟩ = some (.int .i64 (v.sure : Nat)))) (by kernel_rfl) (⟨e0B, e1B⟩) (fun hHeld => ?_)
      refine wpAnyH_take (i := 0) (oi := ⟨some 83, _, _, _, _, _⟩) (v := ?vh4_1) rfl (by kernel_rfl) (by kernel_rfl) (by kernel_rfl) (fun _ _ _ h => h) (Or.inl ⟨by kernel_rfl, ?hyh4_1⟩) (by assumption) ?resth4_1
      case hyh4_1 => (intro w99 hSw; (try dsimp only at hSw); obtain ⟨hs1, hs2⟩ := hSw; (try go_simp); (try with_reducible rfl); (try omega))
      simp only [Act.put, List.setIfInBounds_toArray, List.set_cons_zero, List.set_cons_succ]
      refine wpAnyH_take (i := 1) (oi := ⟨some 84, _, _, _, _, _⟩) (v := ?vh4_2) rfl (by kernel_rfl) (by kernel_rfl) (by kernel_rfl) (fun _ _ _ h => h) (Or.inl ⟨by kernel_rfl, ?hyh4_2⟩) (by assumption) ?resth4_2
      case hyh4_2 => (intro w99 hSw; (try dsimp only at hSw); obtain ⟨hs1, hs2⟩ := hSw; (try go_simp); (try with_reducible rfl); (try omega))
      simp only [Act.put, List.setIfInBounds_toArray, List.set_cons_zero, List.set_cons_succ]
      refine wpAnyH_take (i := 2) (oi := ⟨some 85, _, _, _, _, _⟩) (v := ?vh4_3) rfl (by kernel_rfl) (by kernel_rfl) (by kernel_rfl) (fun _ _ _ h => h) (Or.inl ⟨by kernel_rfl, ?hyh4_3⟩) (by assumption) ?resth4_3
      case hyh4_3 => (intro w99 hSw; (try dsimp only at hSw); obtain ⟨hs1, hs2⟩ := hSw; (try go_simp); (try with_reducible rfl); (try omega))
      simp only [Act.put, List.setIfInBounds_toArray, List.set_cons_zero, List.set_cons_succ]
      refine wpAnyH_take (i := 3) (oi := ⟨some 86, _, _, _, _, _⟩) (v := ?vh4_4) rfl (by kernel_rfl) (by kernel_rfl) (by kernel_rfl) (fun _ _ _ h => h) (Or.inl ⟨by kernel_rfl, ?hyh4_4⟩) (by assumption) ?resth4_4
      case hyh4_4 => (intro w99 hSw; (try dsimp only at hSw); obtain ⟨hs1, hs2⟩ := hSw; (try go_simp); (try with_reducible rfl); (try omega))
      simp only [Act.put, List.setIfInBounds_toArray, List.set_cons_zero, List.set_cons_succ]
      refine wpAnyH_take (i := 4) (oi := ⟨some 87, _, _, _, _, _⟩) (v := ?vh4_5) rfl (by kernel_rfl) (by kernel_rfl) (by kernel_rfl) (fun _ _ _ h => h) (Or.inl ⟨by kernel_rfl, ?hyh4_5⟩) (by assumption) ?resth4_5
      case hyh4_5 => (intro w99 hSw; (try dsimp only at hSw); obtain ⟨hs1, hs2⟩ := hSw; (try go_simp); (try with_reducible rfl); (try omega))
      simp only [Act.put, List.setIfInBounds_toArray, List.set_cons_zero, List.set_cons_succ]
      refine wpAnyH_take (i := 6) (oi := ⟨some 89, _, _, _, _, _⟩) (v := ?vh4_6) rfl (by kernel_rfl) (by kernel_rfl) (by kernel_rfl) (fun _ _ _ h => h) (Or.inl ⟨by kernel_rfl, ?hyh4_6⟩) (by assumption) ?resth4_6
      case hyh4_6 => (intro w99 hSw; (try dsimp only at hSw); obtain ⟨hs1, hs2⟩ := hSw; (try go_simp); (try with_reducible rfl); (try omega))
      simp only [Act.put, List.setIfInBounds_toArray, List.set_cons_zero, List.set_cons_succ]
      refine wpAnyH_take (i := 11) (oi := ⟨some 94, _, _, _, _, _⟩) (v := ?vh4_7) rfl (by kernel_rfl) (by kernel_rfl) (by kernel_rfl) (fun _ _ _ h => h) (Or.inl ⟨by kernel_rfl, ?hyh4_7⟩) (by assumption) ?resth4_7
      case hyh4_7 => (intro w99 hSw; (try dsimp only at hSw); obtain ⟨hs1, hs2⟩ := hSw; (try go_simp); (try with_reducible rfl); (try omega))
      simp only [Act.put, List.setIfInBounds_toArray, List.set_cons_zero, List.set_cons_succ]
      refine wpAnyH_take (i := 13) (oi := ⟨some 96, _, _, _, _, _⟩) (v := ?vh4_8) rfl (by kernel_rfl) (by kernel_rfl) (by kernel_rfl) (fun _ _ _ h => h) (Or.inl ⟨by kernel_rfl, ?hyh4_8⟩) (by assumption) ?resth4_8
      case hyh4_8 => (intro w99 hSw; (try dsimp only at hSw); obtain ⟨hs1, hs2⟩ := hSw; (try go_simp); (try with_reducible rfl); (try omega))
      simp only [Act.put, List.setIfInBounds_toArray, List.set_cons_zero, List.set_cons_succ]
      refine wpAnyH_take (i := 14) (oi := ⟨some 97, _, _, _, _, _⟩) (v := ?vh4_9) rfl (by kernel_rfl) (by kernel_rfl) (by kernel_rfl) (fun _ _ _ h => h) (Or.inl ⟨by kernel_rfl, ?hyh4_9⟩) (by assumption) ?resth4_9
      case hyh4_9 => (intro w99 hSw; (try dsimp only at hSw); obtain ⟨hs1, hs2⟩ := hSw; (try go_simp); (try with_reducible rfl); (try omega))
      simp only [Act.put, List.setIfInBounds_toArray, List.set_cons_zero, List.set_cons_succ]
      refine wpAnyH_take (i := 15) (oi := ⟨some 98, _, _, _, _, _⟩) (v := ?vh4_10) rfl (by kernel_rfl) (by kernel_rfl) (by kernel_rfl) (fun _ _ _ h => h) (Or.inl ⟨by kernel_rfl, ?hyh4_10⟩) (by assumption) ?resth4_10
      case hyh4_10 => (intro w99 hSw; (try dsimp only at hSw); obtain ⟨hs1, hs2⟩ := hSw; (try go_simp); (try with_reducible rfl); (try omega))
      simp only [Act.put, List.setIfInBounds_toArray, List.set_cons_zero, List.set_cons_succ]
      refine wpAnyH_take (i := 17) (oi := ⟨some 100, _, _, _, _, _⟩) (v := ?vh4_11) rfl (by kernel_rfl) (by kernel_rfl) (by kernel_rfl) (fun _ _ _ h => h) (Or.inl ⟨by kernel_rfl, ?hyh4_11⟩) (by assumption) ?resth4_11
      case hyh4_11 => (intro w99 hSw; (try dsimp only at hSw); obtain ⟨hs1, hs2⟩ := hSw; (try go_simp); (try with_reducible rfl); (try omega))
      simp only [Act.put, List.setIfInBounds_toArray, List.set_cons_zero, List.set_cons_succ]
      refine wpAnyH_ready (rs := [5, 16]) (by kernel_rfl) (by simp) ?_
      refine AllReadyH.cons (o := ⟨some 88, _, _, _, _, _⟩) rfl (fun KQ hKQ => ?w5h4_12) (AllReadyH.cons (o := ⟨some 99, _, _, _, _, _⟩) rfl (fun KQ hKQ => ?w16h4_12) AllReadyH.nil)
      case w5h4_12 =>
        go_simp
        refine hKQ.out _ _ (⟨e0B, e1B⟩) (fun hHeld9 => ?_)
        clear hKQ KQ hHeld
        have hHeld := hHeld9
        clear hHeld9
        try simp only [Act.put, List.setIfInBounds_toArray, List.set_cons_zero, List.set_cons_succ]
        refine wpAnyH_take (i := 7) (oi := ⟨some 90, _, _, _, _, _⟩) (v := ?vh4_13) rfl (by kernel_rfl) (by kernel_rfl) (by kernel_rfl) (fun _ _ _ h => h) (Or.inl ⟨by kernel_rfl, ?hyh4_13⟩) (by assumption) ?resth4_13
        case hyh4_13 => (intro w99 hSw; (try dsimp only at hSw); obtain ⟨hs1, hs2⟩ := hSw; (try go_simp); (try with_reducible rfl); (try omega))
        simp only [Act.put, List.setIfInBounds_toArray, List.set_cons_zero, List.set_cons_succ]
        refine wpAnyH_take (i := 8) (oi := ⟨some 91, _, _, _, _, _⟩) (v := ?vh4_14) rfl (by kernel_rfl) (by kernel_rfl) (by kernel_rfl) (fun _ _ _ h => h) (Or.inl ⟨by kernel_rfl, ?hyh4_14⟩) (by assumption) ?resth4_14
        case hyh4_14 => (intro w99 hSw; (try dsimp only at hSw); obtain ⟨hs1, hs2⟩ := hSw; (try go_simp); (try with_reducible rfl); (try omega))
        simp only [Act.put, List.setIfInBounds_toArray, List.set_cons_zero, List.set_cons_succ]
        refine wpAnyH_take (i := 9) (oi := ⟨some 92, _, _, _, _, _⟩) (v := ?vh4_15) rfl (by kernel_rfl) (by kernel_rfl) (by kernel_rfl) (fun _ _ _ h => h) (Or.inl ⟨by kernel_rfl, ?hyh4_15⟩) (by assumption) ?resth4_15
        case hyh4_15 => (intro w99 hSw; (try dsimp only at hSw); obtain ⟨hs1, hs2⟩ := hSw; (try go_simp); (try with_reducible rfl); (try omega))
        simp only [Act.put, List.setIfInBounds_toArray, List.set_cons_zero, List.set_cons_succ]
        refine wpAnyH_ready (rs := [10, 16]) (by kernel_rfl) (by simp) ?_
        refine AllReadyH.cons (o := ⟨some 93, _, _, _, _, _⟩) rfl (fun KQ hKQ => ?w10h4_16) (AllReadyH.cons (o := ⟨some 99, _, _, _, _, _⟩) rfl (fun KQ hKQ => ?w16h4_16) AllReadyH.nil)
        case w10h4_16 =>
          refine step_byt (W := wB) (w0 := wB.drew) (v := .slice none 0 0) (l := []) rfl (.const (.slice none 0 0)) (.tmp 92) rfl (by first | (simp [Act.eval]; done) | (simp [Act.eval]; rfl) | rfl) (BtV.nil ((Kept.refl [] wB).drew)) (by first | (simp [Act.eval]; done) | (simp [Act.eval]; rfl) | rfl) (SRCB.out.kept ((Kept.refl [] wB).drew) (by simp)) SLB.out ?_
          intro A9 m9 c9 w9 h9 k9 r9
          have V9 := Lib.hid h9
          have K9 := Lib.hid (Kept.trans ((Kept.refl [] wB).drew) (show Kept [] wB.drew w9 from k9) (by simp))
          have hx9 := (BB.out.kept K9.out (by simp)).cell
          clear h9 k9 r9
          refine hKQ.out _ _ (⟨(K9.out.cell (p := ⟨g1, o1 + i * 2, none⟩) hg1B (by simp)).trans e0B, (K9.out.cell (p := ⟨g1, o1 + i * 2 + 1, none⟩) hg1B (by simp)).trans e1B⟩) (fun hHeld9 => ?_)
          clear hKQ KQ hHeld
          have hHeld := hHeld9
          clear hHeld9
          try simp only [Act.put, List.setIfInBounds_toArray, List.set_cons_zero, List.set_cons_succ]
          refine wpAnyH_ready (rs := [12, 16]) (by kernel_rfl) (by simp) ?_
          refine AllReadyH.cons (o := ⟨some 95, _, _, _, _, _⟩) rfl (fun KQ hKQ => ?w12h4_17) (AllReadyH.cons (o := ⟨some 99, _, _, _, _, _⟩) rfl (fun KQ hKQ => ?w16h4_17) AllReadyH.nil)
          case w12h4_17 =>
            refine step_byt (W := wB) (w0 := w9) (v := .slice A9 m9 c9) (l := [] ++ f.b) rfl (.tmp 93) (.tmp 94) rfl (by first | (simp [Act.eval]; done) | (simp [Act.eval]; rfl) | rfl) V9.out (by first | (simp [Act.eval]; done) | (simp [Act.eval]; rfl) | rfl) (RBB.out.kept K9.out (by simp)) SLC.out ?_
            intro A10 m10 c10 w10 h10 k10 r10
            have V10 := Lib.hid h10
            have K10 := Lib.hid (K9.out.trans k10 (fun q hm => .inr (r10 q hm)) : Kept [] wB w10)
            have hx10 := (BB.out.kept K10.out (by simp)).cell
            clear h10 k10 r10
            refine hKQ.out _ _ (⟨(K10.out.cell (p := ⟨g1, o1 + i * 2, none⟩) hg1B (by simp)).trans e0B, (K10.out.cell (p := ⟨g1, o1 + i * 2 + 1, none⟩) hg1B (by simp)).trans e1B⟩) (fun hHeld9 => ?_)
            clear hKQ KQ hHeld
            have hHeld := hHeld9
            clear hHeld9
            try simp only [Act.put, List.setIfInBounds_toArray, List.set_cons_zero, List.set_cons_succ]
            refine wpAnyH_ready (rs := [16]) (by kernel_rfl) (by simp) ?_
            refine AllReadyH.cons (o := ⟨some 99, _, _, _, _, _⟩) rfl (fun KQ hKQ => ?w16h4_18) AllReadyH.nil
            case w16h4_18 =>
              go_simp
              refine hKQ.out _ _ (⟨(K10.out.cell (p := ⟨g1, o1 + i * 2, none⟩) hg1B (by simp)).trans e0B, (K10.out.cell (p := ⟨g1, o1 + i * 2 + 1, none⟩) hg1B (by simp)).trans e1B⟩) (fun hHeld9 => ?_)
              clear hKQ KQ hHeld
              have hHeld := hHeld9
              clear hHeld9
              try simp only [Act.put, List.setIfInBounds_toArray, List.set_cons_zero, List.set_cons_succ]
              refine wpAnyH_take (i := 18) (oi := ⟨some 101, _, _, _, _, _⟩) (v := ?vh4_19) rfl (by kernel_rfl) (by kernel_rfl) (by kernel_rfl) (fun _ _ _ h => h) (Or.inl ⟨by kernel_rfl, ?hyh4_19⟩) (by assumption) ?resth4_19
              case hyh4_19 => (intro w99 hSw; (try dsimp only at hSw); obtain ⟨hs1, hs2⟩ := hSw; (try go_simp); (try with_reducible rfl); (try omega))
              simp only [Act.put, List.setIfInBounds_toArray, List.set_cons_zero, List.set_cons_succ]
              refine wpAnyH_take (i := 19) (oi := ⟨some 102, _, _, _, _, _⟩) (v := ?vh4_20) rfl (by kernel_rfl) (by kernel_rfl) (by kernel_rfl) (fun _ _ _ h => h) (Or.inl ⟨by kernel_rfl, ?hyh4_20⟩) (by assumption) ?resth4_20
              case hyh4_20 => (intro w99 hSw; (try dsimp only at hSw); obtain ⟨hs1, hs2⟩ := hSw; (try go_simp); (try with_reducible rfl); (try omega))
              simp only [Act.put, List.setIfInBounds_toArray, List.set_cons_zero, List.set_cons_succ]
              refine wpAnyH_take (i := 20) (oi := ⟨some 103, _, _, _, _, _⟩) (v := ?vh4_21) rfl (by kernel_rfl) (by kernel_rfl) (by kernel_rfl) (fun _ _ _ h => h) (Or.inl ⟨by kernel_rfl, ?hyh4_21⟩) (by assumption) ?resth4_21
              case hyh4_21 => (intro w99 hSw; (try dsimp only at hSw); obtain ⟨hs1, hs2⟩ := hSw; (try go_simp); (try with_reducible rfl); (try omega))
              simp only [Act.put, List.setIfInBounds_toArray, List.set_cons_zero, List.set_cons_succ]
              refine wpAnyH_take (i := 21) (oi := ⟨some 104, _, _, _, _, _⟩) (v := ?vh4_22) rfl (by kernel_rfl) (by kernel_rfl) (by kernel_rfl) (fun _ _ _ h => h) (Or.inl ⟨by kernel_rfl, ?hyh4_22⟩) (by assumption) ?resth4_22
              case hyh4_22 => (intro w99 hSw; (try dsimp only at hSw); obtain ⟨hs1, hs2⟩ := hSw; (try go_simp); (try with_reducible rfl); (try omega))
              simp only [Act.put, List.setIfInBounds_toArray, List.set_cons_zero, List.set_cons_succ]
              refine wpAnyH_ready (rs := [22]) (by kernel_rfl) (by simp) ?_
              refine AllReadyH.cons (o := ⟨some 105, _, _, _, _, _⟩) rfl (fun KQ hKQ => ?w22h4_23) AllReadyH.nil
              case w22h4_23 =>
                go_simp
                go_at_call 66
                have hz := rput_any (XB.out.go K10.out) HILB.out (s := v.sure) V10.out.rd (fun hm => by have h1 := V10.out.new _ hm; have h2 := XB.out.blk.lt; omega) (fun q hm => V10.out.own.lt q hm) (by have := NFB.out; omega)
                with_reducible refine hz.mono ?_
                clear hz
                rintro e w11 ⟨rfl, h11⟩
                have K11 := Lib.hid (show Kept [p] w10 w11 from by obtain ⟨_, _, _, _, _, _, _, _, _, _, _, hk, _⟩ := h11; exact hk)
                have T11 := Lib.hid (RkTo.from (H := H) h11 (KB.out.trans K10.out (by simp)) (fun q hm => (List.mem_append.1 hm).elim (HHB.out q) (fun h => .inr (Nat.le_trans KB.out.size (V10.out.new _ h)))))
                clear h11
                go_wp2_with fail
                refine hKQ.out _ _ (⟨(K11.out.cell (p := ⟨g1, o1 + i * 2, none⟩) (Nat.lt_of_lt_of_le hg1B K10.out.size) (fun hm => XB.out.hd _ hgHB.out hm)).trans ((K10.out.cell (p := ⟨g1, o1 + i * 2, none⟩) hg1B (by simp)).trans e0B), (K11.out.cell (p := ⟨g1, o1 + i * 2 + 1, none⟩) (Nat.lt_of_lt_of_le hg1B K10.out.size) (fun hm => XB.out.hd _ hgHB.out hm)).trans ((K10.out.cell (p := ⟨g1, o1 + i * 2 + 1, none⟩) hg1B (by simp)).trans e1B)⟩) (fun hHeld9 => ?_)
                clear hKQ KQ hHeld
                have hHeld := hHeld9
                clear hHeld9
                try simp only [Act.put, List.setIfInBounds_toArray, List.set_cons_zero, List.set_cons_succ]
                refine wpAnyH_done (by kernel_rfl) ?_ _
                clear hHeld
                go_wp2
                go_ret
                refine ⟨by rw [HRB.out]; rfl, ?_⟩
                rw [HRB.out, hFB.out, ← VSU.out]
                exact T11.out
          case w16h4_17 =>
            go_simp
            refine hKQ.out _ _ (⟨(K9.out.cell (p := ⟨g1, o1 + i * 2, none⟩) hg1B (by simp)).trans e0B, (K9.out.cell (p := ⟨g1, o1 + i * 2 + 1, none⟩) hg1B (by simp)).trans e1B⟩) (fun hHeld9 => ?_)
            clear hKQ KQ hHeld
            have hHeld := hHeld9
            clear hHeld9
            try simp only [Act.put, List.setIfInBounds_toArray, List.set_cons_zero, List.set_cons_succ]
            refine wpAnyH_take (i := 18) (oi := ⟨some 101, _, _, _, _, _⟩) (v := ?vh4_24) rfl (by kernel_rfl) (by kernel_rfl) (by kernel_rfl) (fun _ _ _ h => h) (Or.inl ⟨by kernel_rfl, ?hyh4_24⟩) (by assumption) ?resth4_24
            case hyh4_24 => (intro w99 hSw; (try dsimp only at hSw); obtain ⟨hs1, hs2⟩ := hSw; (try go_simp); (try with_reducible rfl); (try omega))
            simp only [Act.put, List.setIfInBounds_toArray, List.set_cons_zero, List.set_cons_succ]
            refine wpAnyH_take (i := 19) (oi := ⟨some 102, _, _, _, _, _⟩) (v := ?vh4_25) rfl (by kernel_rfl) (by kernel_rfl) (by kernel_rfl) (fun _ _ _ h => h) (Or.inl ⟨by kernel_rfl, ?hyh4_25⟩) (by assumption) ?resth4_25
            case hyh4_25 => (intro w99 hSw; (try dsimp only at hSw); obtain ⟨hs1, hs2⟩ := hSw; (try go_simp); (try with_reducible rfl); (try omega))
            simp only [Act.put, List.setIfInBounds_toArray, List.set_cons_zero, List.set_cons_succ]
            refine wpAnyH_take (i := 20) (oi := ⟨some 103, _, _, _, _, _⟩) (v := ?vh4_26) rfl (by kernel_rfl) (by kernel_rfl) (by kernel_rfl) (fun _ _ _ h => h) (Or.inl ⟨by kernel_rfl, ?hyh4_26⟩) (by assumption) ?resth4_26
            case hyh4_26 => (intro w99 hSw; (try dsimp only at hSw); obtain ⟨hs1, hs2⟩ := hSw; (try go_simp); (try with_reducible rfl); (try omega))
            simp only [Act.put, List.setIfInBounds_toArray, List.set_cons_zero, List.set_cons_succ]
            refine wpAnyH_ready (rs := [12]) (by kernel_rfl) (by simp) ?_
            refine AllReadyH.cons (o := ⟨some 95, _, _, _, _, _⟩) rfl (fun KQ hKQ => ?w12h4_27) AllReadyH.nil
            case w12h4_27 =>
              refine step_byt (W := wB) (w0 := w9) (v := .slice A9 m9 c9) (l := [] ++ f.b) rfl (.tmp 93) (.tmp 94) rfl (by first | (simp [Act.eval]; done) | (simp [Act.eval]; rfl) | rfl) V9.out (by first | (simp [Act.eval]; done) | (simp [Act.eval]; rfl) | rfl) (RBB.out.kept K9.out (by simp)) SLC.out ?_
              intro A10 m10 c10 w10 h10 k10 r10
              have V10 := Lib.hid h10
              have K10 := Lib.hid (K9.out.trans k10 (fun q hm => .inr (r10 q hm)) : Kept [] wB w10)
              have hx10 := (BB.out.kept K10.out (by simp)).cell
              clear h10 k10 r10
              refine hKQ.out _ _ (⟨(K10.out.cell (p := ⟨g1, o1 + i * 2, none⟩) hg1B (by simp)).trans e0B, (K10.out.cell (p := ⟨g1, o1 + i * 2 + 1, none⟩) hg1B (by simp)).trans e1B⟩) (fun hHeld9 => ?_)
              clear hKQ KQ hHeld
              have hHeld := hHeld9
              clear hHeld9
              try simp only [Act.put, List.setIfInBounds_toArray, List.set_cons_zero, List.set_cons_succ]
              refine wpAnyH_take (i := 21) (oi := ⟨some 104, _, _, _, _, _⟩) (v := ?vh4_28) rfl (by kernel_rfl) (by kernel_rfl) (by kernel_rfl) (fun _ _ _ h => h) (Or.inl ⟨by kernel_rfl, ?hyh4_28⟩) (by assumption) ?resth4_28
              case hyh4_28 => (intro w99 hSw; (try dsimp only at hSw); obtain ⟨hs1, hs2⟩ := hSw; (try go_simp); (try with_reducible rfl); (try omega))
              simp only [Act.put, List.setIfInBounds_toArray, List.set_cons_zero, List.set_cons_succ]
              refine wpAnyH_ready (rs := [22]) (by kernel_rfl) (by simp) ?_
              refine AllReadyH.cons (o := ⟨some 105, _, _, _, _, _⟩) rfl (fun KQ hKQ => ?w22h4_29) AllReadyH.nil
              case w22h4_29 =>
                go_simp
                go_at_call 66
                have hz := rput_any (XB.out.go K10.out) HILB.out (s := v.sure) V10.out.rd (fun hm => by have h1 := V10.out.new _ hm; have h2 := XB.out.blk.lt; omega) (fun q hm => V10.out.own.lt q hm) (by have := NFB.out; omega)
                with_reducible refine hz.mono ?_
                clear hz
                rintro e w11 ⟨rfl, h11⟩
                have K11 := Lib.hid (show Kept [p] w10 w11 from by obtain ⟨_, _, _, _, _, _, _, _, _, _, _, hk, _⟩ := h11; exact hk)
                have T11 := Lib.hid (RkTo.from (H := H) h11 (KB.out.trans K10.out (by simp)) (fun q hm => (List.mem_append.1 hm).elim (HHB.out q) (fun h => .inr (Nat.le_trans KB.out.size (V10.out.new _ h)))))
                clear h11
                go_wp2_with fail
                refine hKQ.out _ _ (⟨(K11.out.cell (p := ⟨g1, o1 + i * 2, none⟩) (Nat.lt_of_lt_of_le hg1B K10.out.size) (fun hm => XB.out.hd _ hgHB.out hm)).trans ((K10.out.cell (p := ⟨g1, o1 + i * 2, none⟩) hg1B (by simp)).trans e0B), (K11.out.cell (p := ⟨g1, o1 + i * 2 + 1, none⟩) (Nat.lt_of_lt_of_le hg1B K10.out.size) (fun hm => XB.out.hd _ hgHB.out hm)).trans ((K10.out.cell (p := ⟨g1, o1 + i * 2 + 1, none⟩) hg1B (by simp)).trans e1B)⟩) (fun hHeld9 => ?_)
                clear hKQ KQ hHeld
                have hHeld := hHeld9
                clear hHeld9
                try simp only [Act.put, List.setIfInBounds_toArray, List.set_cons_zero, List.set_cons_succ]
                refine wpAnyH_done (by kernel_rfl) ?_ _
                clear hHeld
                go_wp2
                go_ret
                refine ⟨by rw [HRB.out]; rfl, ?_⟩
                rw [HRB.out, hFB.out, ← VSU.out]
                exact T11.out
        case w16h4_16 =>
          go_simp
          refine hKQ.out _ _ (⟨e0B, e1B⟩) (fun hHeld9 => ?_)
          clear hKQ KQ hHeld
          have hHeld := hHeld9
          clear hHeld9
          try simp only [Act.put, List.setIfInBounds_toArray, List.set_cons_zero, List.set_cons_succ]
          refine wpAnyH_take (i := 18) (oi := ⟨some 101, _, _, _, _, _⟩) (v := ?vh4_30) rfl (by kernel_rfl) (by kernel_rfl) (by kernel_rfl) (fun _ _ _ h => h) (Or.inl ⟨by kernel_rfl, ?hyh4_30⟩) (by assumption) ?resth4_30
          case hyh4_30 => (intro w99 hSw; (try dsimp only at hSw); obtain ⟨hs1, hs2⟩ := hSw; (try go_simp); (try with_reducible rfl); (try omega))
          simp only [Act.put, List.setIfInBounds_toArray, List.set_cons_zero, List.set_cons_succ]
          refine wpAnyH_take (i := 19) (oi := ⟨some 102, _, _, _, _, _⟩) (v := ?vh4_31) rfl (by kernel_rfl) (by kernel_rfl) (by kernel_rfl) (fun _ _ _ h => h) (Or.inl ⟨by kernel_rfl, ?hyh4_31⟩) (by assumption) ?resth4_31
          case hyh4_31 => (intro w99 hSw; (try dsimp only at hSw); obtain ⟨hs1, hs2⟩ := hSw; (try go_simp); (try with_reducible rfl); (try omega))
          simp only [Act.put, List.setIfInBounds_toArray, List.set_cons_zero, List.set_cons_succ]
          refine wpAnyH_take (i := 20) (oi := ⟨some 103, _, _, _, _, _⟩) (v := ?vh4_32) rfl (by kernel_rfl) (by kernel_rfl) (by kernel_rfl) (fun _ _ _ h => h) (Or.inl ⟨by kernel_rfl, ?hyh4_32⟩) (by assumption) ?resth4_32
          case hyh4_32 => (intro w99 hSw; (try dsimp only at hSw); obtain ⟨hs1, hs2⟩ := hSw; (try go_simp); (try with_reducible rfl); (try omega))
          simp only [Act.put, List.setIfInBounds_toArray, List.set_cons_zero, List.set_cons_succ]
          refine wpAnyH_ready (rs := [10]) (by kernel_rfl) (by simp) ?_
          refine AllReadyH.cons (o := ⟨some 93, _, _, _, _, _⟩) rfl (fun KQ hKQ => ?w10h4_33) AllReadyH.nil
          case w10h4_33 =>
            refine step_byt (W := wB) (w0 := wB.drew) (v := .slice none 0 0) (l := []) rfl (.const (.slice none 0 0)) (.tmp 92) rfl (by first | (simp [Act.eval]; done) | (simp [Act.eval]; rfl) | rfl) (BtV.nil ((Kept.refl [] wB).drew)) (by first | (simp [Act.eval]; done) | (simp [Act.eval]; rfl) | rfl) (SRCB.out.kept ((Kept.refl [] wB).drew) (by simp)) SLB.out ?_
            intro A9 m9 c9 w9 h9 k9 r9
            have V9 := Lib.hid h9
            have K9 := Lib.hid (Kept.trans ((Kept.refl [] wB).drew) (show Kept [] wB.drew w9 from k9) (by simp))
            have hx9 := (BB.out.kept K9.out (by simp)).cell
            clear h9 k9 r9
            refine hKQ.out _ _ (⟨(K9.out.cell (p := ⟨g1, o1 + i * 2, none⟩) hg1B (by simp)).trans e0B, (K9.out.cell (p := ⟨g1, o1 + i * 2 + 1, none⟩) hg1B (by simp)).trans e1B⟩) (fun hHeld9 => ?_)
            clear hKQ KQ hHeld
            have hHeld := hHeld9
            clear hHeld9
            try simp only [Act.put, List.setIfInBounds_toArray, List.set_cons_zero, List.set_cons_succ]
            refine wpAnyH_ready (rs := [12]) (by kernel_rfl) (by simp) ?_
            refine AllReadyH.cons (o := ⟨some 95, _, _, _, _, _⟩) rfl (fun KQ hKQ => ?w12h4_34) AllReadyH.nil
            case w12h4_34 =>
              refine step_byt (W := wB) (w0 := w9) (v := .slice A9 m9 c9) (l := [] ++ f.b) rfl (.tmp 93) (.tmp 94) rfl (by first | (simp [Act.eval]; done) | (simp [Act.eval]; rfl) | rfl) V9.out (by first | (simp [Act.eval]; done) | (simp [Act.eval]; rfl) | rfl) (RBB.out.kept K9.out (by simp)) SLC.out ?_
              intro A10 m10 c10 w10 h10 k10 r10
              have V10 := Lib.hid h10
              have K10 := Lib.hid (K9.out.trans k10 (fun q hm => .inr (r10 q hm)) : Kept [] wB w10)
              have hx10 := (BB.out.kept K10.out (by simp)).cell
              clear h10 k10 r10
              refine hKQ.out _ _ (⟨(K10.out.cell (p := ⟨g1, o1 + i * 2, none⟩) hg1B (by simp)).trans e0B, (K10.out.cell (p := ⟨g1, o1 + i * 2 + 1, none⟩) hg1B (by simp)).trans e1B⟩) (fun hHeld9 => ?_)
              clear hKQ KQ hHeld
              have hHeld := hHeld9
              clear hHeld9
              try simp only [Act.put, List.setIfInBounds_toArray, List.set_cons_zero, List.set_cons_succ]
              refine wpAnyH_take (i := 21) (oi := ⟨some 104, _, _, _, _, _⟩) (v := ?vh4_35) rfl (by kernel_rfl) (by kernel_rfl) (by kernel_rfl) (fun _ _ _ h => h) (Or.inl ⟨by kernel_rfl, ?hyh4_35⟩) (by assumption) ?resth4_35
              case hyh4_35 => (intro w99 hSw; (try dsimp only at hSw); obtain ⟨hs1, hs2⟩ := hSw; (try go_simp); (try with_reducible rfl); (try omega))
              simp only [Act.put, List.setIfInBounds_toArray, List.set_cons_zero, List.set_cons_succ]
              refine wpAnyH_ready (rs := [22]) (by kernel_rfl) (by simp) ?_
              refine AllReadyH.cons (o := ⟨some 105, _, _, _, _, _⟩) rfl (fun KQ hKQ => ?w22h4_36) AllReadyH.nil
              case w22h4_36 =>
                go_simp
                go_at_call 66
                have hz := rput_any (XB.out.go K10.out) HILB.out (s := v.sure) V10.out.rd (fun hm => by have h1 := V10.out.new _ hm; have h2 := XB.out.blk.lt; omega) (fun q hm => V10.out.own.lt q hm) (by have := NFB.out; omega)
                with_reducible refine hz.mono ?_
                clear hz
                rintro e w11 ⟨rfl, h11⟩
                have K11 := Lib.hid (show Kept [p] w10 w11 from by obtain ⟨_, _, _, _, _, _, _, _, _, _, _, hk, _⟩ := h11; exact hk)
                have T11 := Lib.hid (RkTo.from (H := H) h11 (KB.out.trans K10.out (by simp)) (fun q hm => (List.mem_append.1 hm).elim (HHB.out q) (fun h => .inr (Nat.le_trans KB.out.size (V10.out.new _ h)))))
                clear h11
                go_wp2_with fail
                refine hKQ.out _ _ (⟨(K11.out.cell (p := ⟨g1, o1 + i * 2, none⟩) (Nat.lt_of_lt_of_le hg1B K10.out.size) (fun hm => XB.out.hd _ hgHB.out hm)).trans ((K10.out.cell (p := ⟨g1, o1 + i * 2, none⟩) hg1B (by simp)).trans e0B), (K11.out.cell (p := ⟨g1, o1 + i * 2 + 1, none⟩) (Nat.lt_of_lt_of_le hg1B K10.out.size) (fun hm => XB.out.hd _ hgHB.out hm)).trans ((K10.out.cell (p := ⟨g1, o1 + i * 2 + 1, none⟩) hg1B (by simp)).trans e1B)⟩) (fun hHeld9 => ?_)
                clear hKQ KQ hHeld
                have hHeld := hHeld9
                clear hHeld9
                try simp only [Act.put, List.setIfInBounds_toArray, List.set_cons_zero, List.set_cons_succ]
                refine wpAnyH_done (by kernel_rfl) ?_ _
                clear hHeld
                go_wp2
                go_ret
                refine ⟨by rw [HRB.out]; rfl, ?_⟩
                rw [HRB.out, hFB.out, ← VSU.out]
                exact T11.out
      case w16h4_12 =>
        go_simp
        refine hKQ.out _ _ (⟨e0B, e1B⟩) (fun hHeld9 => ?_)
        clear hKQ KQ hHeld
        have hHeld := hHeld9
        clear hHeld9
        try simp only [Act.put, List.setIfInBounds_toArray, List.set_cons_zero, List.set_cons_succ]
        refine wpAnyH_take (i := 18) (oi := ⟨some 101, _, _, _, _, _⟩) (v := ?vh4_37) rfl (by kernel_rfl) (by kernel_rfl) (by kernel_rfl) (fun _ _ _ h => h) (Or.inl ⟨by kernel_rfl, ?hyh4_37⟩) (by assumption) ?resth4_37
        case hyh4_37 => (intro w99 hSw; (try dsimp only at hSw); obtain ⟨hs1, hs2⟩ := hSw; (try go_simp); (try with_reducible rfl); (try omega))
        simp only [Act.put, List.setIfInBounds_toArray, List.set_cons_zero, List.set_cons_succ]
        refine wpAnyH_take (i := 19) (oi := ⟨some 102, _, _, _, _, _⟩) (v := ?vh4_38) rfl (by kernel_rfl) (by kernel_rfl) (by kernel_rfl) (fun _ _ _ h => h) (Or.inl ⟨by kernel_rfl, ?hyh4_38⟩) (by assumption) ?resth4_38
        case hyh4_38 => (intro w99 hSw; (try dsimp only at hSw); obtain ⟨hs1, hs2⟩ := hSw; (try go_simp); (try with_reducible rfl); (try omega))
        simp only [Act.put, List.setIfInBounds_toArray, List.set_cons_zero, List.set_cons_succ]
        refine wpAnyH_take (i := 20) (oi := ⟨some 103, _, _, _, _, _⟩) (v := ?vh4_39) rfl (by kernel_rfl) (by kernel_rfl) (by kernel_rfl) (fun _ _ _ h => h) (Or.inl ⟨by kernel_rfl, ?hyh4_39⟩) (by assumption) ?resth4_39
        case hyh4_39 => (intro w99 hSw; (try dsimp only at hSw); obtain ⟨hs1, hs2⟩ := hSw; (try go_simp); (try with_reducible rfl); (try omega))
        simp only [Act.put, List.setIfInBounds_toArray, List.set_cons_zero, List.set_cons_succ]
        refine wpAnyH_ready (rs := [5]) (by kernel_rfl) (by simp) ?_
        refine AllReadyH.cons (o := ⟨some 88, _, _, _, _, _⟩) rfl (fun KQ hKQ => ?w5h4_40) AllReadyH.nil
        case w5h4_40 =>
          go_simp
          refine hKQ.out _ _ (⟨e0B, e1B⟩) (fun hHeld9 => ?_)
          clear hKQ KQ hHeld
          have hHeld := hHeld9
          clear hHeld9
          try simp only [Act.put, List.setIfInBounds_toArray, List.set_cons_zero, List.set_cons_succ]
          refine wpAnyH_take (i := 7) (oi := ⟨some 90, _, _, _, _, _⟩) (v := ?vh4_41) rfl (by kernel_rfl) (by kernel_rfl) (by kernel_rfl) (fun _ _ _ h => h) (Or.inl ⟨by kernel_rfl, ?hyh4_41⟩) (by assumption) ?resth4_41
          case hyh4_41 => (intro w99 hSw; (try dsimp only at hSw); obtain ⟨hs1, hs2⟩ := hSw; (try go_simp); (try with_reducible rfl); (try omega))
          simp only [Act.put, List.setIfInBounds_toArray, List.set_cons_zero, List.set_cons_succ]
          refine wpAnyH_take (i := 8) (oi := ⟨some 91, _, _, _, _, _⟩) (v := ?vh4_42) rfl (by kernel_rfl) (by kernel_rfl) (by kernel_rfl) (fun _ _ _ h => h) (Or.inl ⟨by kernel_rfl, ?hyh4_42⟩) (by assumption) ?resth4_42
          case hyh4_42 => (intro w99 hSw; (try dsimp only at hSw); obtain ⟨hs1, hs2⟩ := hSw; (try go_simp); (try with_reducible rfl); (try omega))
          simp only [Act.put, List.setIfInBounds_toArray, List.set_cons_zero, List.set_cons_succ]
          refine wpAnyH_take (i := 9) (oi := ⟨some 92, _, _, _, _, _⟩) (v := ?vh4_43) rfl (by kernel_rfl) (by kernel_rfl) (by kernel_rfl) (fun _ _ _ h => h) (Or.inl ⟨by kernel_rfl, ?hyh4_43⟩) (by assumption) ?resth4_43
          case hyh4_43 => (intro w99 hSw; (try dsimp only at hSw); obtain ⟨hs1, hs2⟩ := hSw; (try go_simp); (try with_reducible rfl); (try omega))
          simp only [Act.put, List.setIfInBounds_toArray, List.set_cons_zero, List.set_cons_succ]
          refine wpAnyH_ready (rs := [10]) (by kernel_rfl) (by simp) ?_
          refine AllReadyH.cons (o := ⟨some 93, _, _, _, _, _⟩) rfl (fun KQ hKQ => ?w10h4_44) AllReadyH.nil
          case w10h4_44 =>
            refine step_byt (W := wB) (w0 := wB.drew) (v := .slice none 0 0) (l := []) rfl (.const (.slice none 0 0)) (.tmp 92) rfl (by first | (simp [Act.eval]; done) | (simp [Act.eval]; rfl) | rfl) (BtV.nil ((Kept.refl [] wB).drew)) (by first | (simp [Act.eval]; done) | (simp [Act.eval]; rfl) | rfl) (SRCB.out.kept ((Kept.refl [] wB).drew) (by simp)) SLB.out ?_
            intro A9 m9 c9 w9 h9 k9 r9
            have V9 := Lib.hid h9
            have K9 := Lib.hid (Kept.trans ((Kept.refl [] wB).drew) (show Kept [] wB.drew w9 from k9) (by simp))
            have hx9 := (BB.out.kept K9.out (by simp)).cell
            clear h9 k9 r9
            refine hKQ.out _ _ (⟨(K9.out.cell (p := ⟨g1, o1 + i * 2, none⟩) hg1B (by simp)).trans e0B, (K9.out.cell (p := ⟨g1, o1 + i * 2 + 1, none⟩) hg1B (by simp)).trans e1B⟩) (fun hHeld9 => ?_)
            clear hKQ KQ hHeld
            have hHeld := hHeld9
            clear hHeld9
            try simp only [Act.put, List.setIfInBounds_toArray, List.set_cons_zero, List.set_cons_succ]
            refine wpAnyH_ready (rs := [12]) (by kernel_rfl) (by simp) ?_
            refine AllReadyH.cons (o := ⟨some 95, _, _, _, _, _⟩) rfl (fun KQ hKQ => ?w12h4_45) AllReadyH.nil
            case w12h4_45 =>
              refine step_byt (W := wB) (w0 := w9) (v := .slice A9 m9 c9) (l := [] ++ f.b) rfl (.tmp 93) (.tmp 94) rfl (by first | (simp [Act.eval]; done) | (simp [Act.eval]; rfl) | rfl) V9.out (by first | (simp [Act.eval]; done) | (simp [Act.eval]; rfl) | rfl) (RBB.out.kept K9.out (by simp)) SLC.out ?_
              intro A10 m10 c10 w10 h10 k10 r10
              have V10 := Lib.hid h10
              have K10 := Lib.hid (K9.out.trans k10 (fun q hm => .inr (r10 q hm)) : Kept [] wB w10)
              have hx10 := (BB.out.kept K10.out (by simp)).cell
              clear h10 k10 r10
              refine hKQ.out _ _ (⟨(K10.out.cell (p := ⟨g1, o1 + i * 2, none⟩) hg1B (by simp)).trans e0B, (K10.out.cell (p := ⟨g1, o1 + i * 2 + 1, none⟩) hg1B (by simp)).trans e1B⟩) (fun hHeld9 => ?_)
              clear hKQ KQ hHeld
              have hHeld := hHeld9
              clear hHeld9
              try simp only [Act.put, List.setIfInBounds_toArray, List.set_cons_zero, List.set_cons_succ]
              refine wpAnyH_take (i := 21) (oi := ⟨some 104, _, _, _, _, _⟩) (v := ?vh4_46) rfl (by kernel_rfl) (by kernel_rfl) (by kernel_rfl) (fun _ _ _ h => h) (Or.inl ⟨by kernel_rfl, ?hyh4_46⟩) (by assumption) ?resth4_46
              case hyh4_46 => (intro w99 hSw; (try dsimp only at hSw); obtain ⟨hs1, hs2⟩ := hSw; (try go_simp); (try with_reducible rfl); (try omega))
              simp only [Act.put, List.setIfInBounds_toArray, List.set_cons_zero, List.set_cons_succ]
              refine wpAnyH_ready (rs := [22]) (by kernel_rfl) (by simp) ?_
              refine AllReadyH.cons (o := ⟨some 105, _, _, _, _, _⟩) rfl (fun KQ hKQ => ?w22h4_47) AllReadyH.nil
              case w22h4_47 =>
                go_simp
                go_at_call 66
                have hz := rput_any (XB.out.go K10.out) HILB.out (s := v.sure) V10.out.rd (fun hm => by have h1 := V10.out.new _ hm; have h2 := XB.out.blk.lt; omega) (fun q hm => V10.out.own.lt q hm) (by have := NFB.out; omega)
                with_reducible refine hz.mono ?_
                clear hz
                rintro e w11 ⟨rfl, h11⟩
                have K11 := Lib.hid (show Kept [p] w10 w11 from by obtain ⟨_, _, _, _, _, _, _, _, _, _, _, hk, _⟩ := h11; exact hk)
                have T11 := Lib.hid (RkTo.from (H := H) h11 (KB.out.trans K10.out (by simp)) (fun q hm => (List.mem_append.1 hm).elim (HHB.out q) (fun h => .inr (Nat.le_trans KB.out.size (V10.out.new _ h)))))
                clear h11
                go_wp2_with fail
                refine hKQ.out _ _ (⟨(K11.out.cell (p := ⟨g1, o1 + i * 2, none⟩) (Nat.lt_of_lt_of_le hg1B K10.out.size) (fun hm => XB.out.hd _ hgHB.out hm)).trans ((K10.out.cell (p := ⟨g1, o1 + i * 2, none⟩) hg1B (by simp)).trans e0B), (K11.out.cell (p := ⟨g1, o1 + i * 2 + 1, none⟩) (Nat.lt_of_lt_of_le hg1B K10.out.size) (fun hm => XB.out.hd _ hgHB.out hm)).trans ((K10.out.cell (p := ⟨g1, o1 + i * 2 + 1, none⟩) hg1B (by simp)).trans e1B)⟩) (fun hHeld9 => ?_)
                clear hKQ KQ hHeld
                have hHeld := hHeld9
                clear hHeld9
                try simp only [Act.put, List.setIfInBounds_toArray, List.set_cons_zero, List.set_cons_succ]
                refine wpAnyH_done (by kernel_rfl) ?_ _
                clear hHeld
                go_wp2
                go_ret
                refine ⟨by rw [HRB.out]; rfl, ?_⟩
                rw [HRB.out, hFB.out, ← VSU.out]
                exact T11.out
  · obtain ⟨f, hf⟩ : ∃ f, M.files[i]? = some f := ⟨_, List.getElem?_eq_getElem (OK.out.now _ (getM_mem hg))⟩
    have hil := (List.getElem?_eq_some_iff.1 hf).1
    have HIL := Lib.hid hil
    obtain ⟨v, hv⟩ : ∃ v, vs[i]? = some v := ⟨_, List.getElem?_eq_getElem (by rw [HX.out.fb.1]; exact hil)⟩
    obtain ⟨g1, o1, hA1, hg1, hgG, d0, d1⟩ := HX.out.fv.at hv
    have HFB := Lib.hid (HX.out.fb.2 i v f hv hf)
    have vm := HFB.out.1.len.1
    have vm2 := HFB.out.1.len.2.1
    have vm3 := HFB.out.1.len.2.2.1
    unfold maxLen at vm3
    have SF := Lib.hid (OK.out.sure f (List.mem_of_getElem? hf))
    have hgH := Lib.hid hgG
    subst hA1
    have j0 : (0 : Int) ≤ (i : Int) := by omega
    have j1 : (i : Int) < (M.files.length : Int) := by omega
    have i0 : ¬ (i : Int) < 0 := by omega
    have HGF := Lib.hid (show fidx (getM M.now x) = (i : Nat) by rw [hg]; rfl)
    have HLF := Lib.hid (show lenF M.files i = v.m by rw [lenF_get hf]; exact vm)
    have iwm : IntKind.i64.wrap ((1048576 : Int) - (v.m : Int)) = (1048576 : Int) - (v.m : Int) := IntWalk.i64_in _ (by have := SF.out.2; omega)
    have i9 : (0 : Int) ≤ (i : Int) := by omega
    by_cases ha : M.quota - (sz : Int) < (n : Int)
    · have HR := Lib.hid (show appM M x b = (7, { M with n := n1, fail := f1 }) by unfold appM; rw [HO.out, hnm, hg]; simp [fulM, SZ.out, BLN.out, HLF.out, ha])
      have j6 : M.quota - (sz : Int) < (n : Int) := ha
      clear hg hnm hf hv ha
      go_upto_region 9 with (first
        | (go_at_call 62
           refine HOP.out.mono ?_
           rintro e w1 ⟨rfl, h1, hk1⟩
           have X1 := Lib.hid h1
           have K1 := Lib.hid hk1
           have B1 := Lib.hid (show Blk w1 p 87 #[.slice (some ⟨g1, o1, none⟩) M.files.length c1, .slice A2 M.now.length c2, .slice A3 M.sur.length c3, .slice A4 M.ch.length c4, .int .i64 M.quota, .int .i64 n1, .int .i64 f1] from h1.blk)
           have hx1 := B1.out.cell
           have hf1 := B1.out.frozen
           have hl1 := B1.out.lt
           clear h1 hk1)
        | (go_at_call 63
           refine (rmay_any w1 x HXL.out).mono ?_
           rintro e w9 ⟨rfl, rfl⟩
           rw [HNM.out])
        | (go_at_call 64
           refine (rfind_any w1 X1.out.nw x).mono ?_
           rintro e w2 ⟨rfl, hk2⟩
           rw [HGF.out]
           have X2 := Lib.hid (X1.out.go hk2)
           have K2 := Lib.hid (K1.out.trans hk2 (by simp) : Kept [p] w w2)
           have B2 := Lib.hid (B1.out.kept hk2 (by simp))
           have hx2 := B2.out.cell
           have hf2 := B2.out.frozen
           have hl2 := B2.out.lt
           clear hk2 hx1 hf1 hl1
           have e0 := (K2.out.cell (p := ⟨g1, o1 + i * 2, none⟩) hg1 (fun hm => HX.out.hd _ hgH.out hm)).trans d0
           have e1 := (K2.out.cell (p := ⟨g1, o1 + i * 2 + 1, none⟩) hg1 (fun hm => HX.out.hd _ hgH.out hm)).trans d1))
      refine wp_region_held_drew (S := (fun w' => ∀ j, w'.cell? ⟨p, j, none⟩ = (#[.slice (some ⟨g1, o1, none⟩) M.files.length c1, .slice A2 M.now.length c2, .slice A3 M.sur.length c3, .slice A4 M.ch.length c4, .int .i64 M.quota, .int .i64 n1, .int .i64 f1] : Array Value)[j]?)) (by kernel_rfl) (fun j => hx2 j) (fun hHeld => ?_)
      refine wpAnyH_take (i := 0) (oi := ⟨some 31, _, _, _, _, _⟩) (v := ?vh5_1) rfl (by kernel_rfl) (by kernel_rfl) (by kernel_rfl) (fun _ _ _ h => h) (Or.inl ⟨by kernel_rfl, ?hyh5_1⟩) (by assumption) ?resth5_1
      case hyh5_1 => (intro w99 hSw; (try dsimp only at hSw); (try go_simp); (try with_reducible rfl); (try omega))
      simp only [Act.put, List.setIfInBounds_toArray, List.set_cons_zero, List.set_cons_succ]
      refine wpAnyH_take (i := 1) (oi := ⟨some 32, _, _, _, _, _⟩) (v := ?vh5_2) rfl (by kernel_rfl) (by kernel_rfl) (by kernel_rfl) (fun _ _ _ h => h) (Or.inl ⟨by kernel_rfl, ?hyh5_2⟩) (by assumption) ?resth5_2
      case hyh5_2 => (intro w99 hSw; (try dsimp only at hSw); (try go_simp); (try with_reducible rfl); (try omega))
      simp only [Act.put, List.setIfInBounds_toArray, List.set_cons_zero, List.set_cons_succ]
      refine wpAnyH_take (i := 2) (oi := ⟨some 33, _, _, _, _, _⟩) (v := ?vh5_3) rfl (by kernel_rfl) (by kernel_rfl) (by kernel_rfl) (fun _ _ _ h => h) (Or.inl ⟨by kernel_rfl, ?hyh5_3⟩) (by assumption) ?resth5_3
      case hyh5_3 => (intro w99 hSw; (try dsimp only at hSw); (try go_simp); (try with_reducible rfl); (try omega))
      simp only [Act.put, List.setIfInBounds_toArray, List.set_cons_zero, List.set_cons_succ]
      refine wpAnyH_take (i := 3) (oi := ⟨some 34, _, _, _, _, _⟩) (v := ?vh5_4) rfl (by kernel_rfl) (by kernel_rfl) (by kernel_rfl) (fun _ _ _ h => h) (Or.inl ⟨by kernel_rfl, ?hyh5_4⟩) (by assumption) ?resth5_4
      case hyh5_4 => (intro w99 hSw; (try dsimp only at hSw); (try go_simp); (try with_reducible rfl); (try omega))
      simp only [Act.put, List.setIfInBounds_toArray, List.set_cons_zero, List.set_cons_succ]
      refine wpAnyH_take (i := 4) (oi := ⟨some 35, _, _, _, _, _⟩) (v := ?vh5_5) rfl (by kernel_rfl) (by kernel_rfl) (by kernel_rfl) (fun _ _ _ h => h) (Or.inl ⟨by kernel_rfl, ?hyh5_5⟩) (by assumption) ?resth5_5
      case hyh5_5 => (intro w99 hSw; (try dsimp only at hSw); (try go_simp); (try with_reducible rfl); (try omega))
      simp only [Act.put, List.setIfInBounds_toArray, List.set_cons_zero, List.set_cons_succ]
      refine wpAnyH_take (i := 5) (oi := ⟨some 36, _, _, _, _, _⟩) (v := ?vh5_6) rfl (by kernel_rfl) (by kernel_rfl) (by kernel_rfl) (fun _ _ _ h => h) (Or.inl ⟨by kernel_rfl, ?hyh5_6⟩) (by assumption) ?resth5_6
      case hyh5_6 => (intro w99 hSw; (try dsimp only at hSw); (try go_simp); (try with_reducible rfl); (try omega))
      simp only [Act.put, List.setIfInBounds_toArray, List.set_cons_zero, List.set_cons_succ]
      refine wpAnyH_take (i := 6) (oi := ⟨some 37, _, _, _, _, _⟩) (v := ?vh5_7) rfl (by kernel_rfl) (by kernel_rfl) (by kernel_rfl) (fun _ _ _ h => h) (Or.inl ⟨by kernel_rfl, ?hyh5_7⟩) (by assumption) ?resth5_7
      case hyh5_7 => (intro w99 hSw; (try dsimp only at hSw); (try go_simp); (try with_reducible rfl); (try omega))
      simp only [Act.put, List.setIfInBounds_toArray, List.set_cons_zero, List.set_cons_succ]
      refine wpAnyH_ready (rs := [7]) (by kernel_rfl) (by simp) ?_
      refine AllReadyH.cons (o := ⟨some 38, _, _, _, _, _⟩) rfl (fun KQ hKQ => ?w7h5_8) AllReadyH.nil
      case w7h5_8 =>
        go_simp
        go_at_call 55
        have hz := rSize_any (X2.out.go ((Kept.refl [] w2).drew)) OK.out.now (fun f hf => (OK.out.sure f hf).2) (by have := OK.out.nl; simp only; omega)
        rw [show sizM { M with n := n1, fail := f1 } = sz from SZ.out] at hz
        with_reducible refine hz.mono ?_
        clear hz
        rintro e w3 ⟨rfl, hk3⟩
        have K3' := Lib.hid (Kept.trans ((Kept.refl [] w2).drew) hk3 (by simp))
        clear hk3
        go_wp2_with fail
        refine hKQ.out _ _ (fun j => (B2.out.kept K3'.out (by simp)).cell j) (fun hHeld9 => ?_)
        clear hKQ KQ hHeld
        have hHeld := hHeld9
        clear hHeld9
        try simp only [Act.put, List.setIfInBounds_toArray, List.set_cons_zero, List.set_cons_succ]
        refine wpAnyH_take (i := 8) (oi := ⟨some 39, _, _, _, _, _⟩) (v := ?vh5_9) rfl (by kernel_rfl) (by kernel_rfl) (by kernel_rfl) (fun _ _ _ h => h) (Or.inl ⟨by kernel_rfl, ?hyh5_9⟩) (by assumption) ?resth5_9
        case hyh5_9 => (intro w99 hSw; (try dsimp only at hSw); (try go_simp); (try with_reducible rfl); (try omega))
        simp only [Act.put, List.setIfInBounds_toArray, List.set_cons_zero, List.set_cons_succ]
        refine wpAnyH_take (i := 9) (oi := ⟨some 40, _, _, _, _, _⟩) (v := .bool true) rfl (by kernel_rfl) (by kernel_rfl) (by kernel_rfl) (fun _ _ _ h => h) (Or.inl ⟨by kernel_rfl, ?hyh5_10⟩) (by assumption) ?resth5_10
        case hyh5_10 => (intro w99 hSw; (try dsimp only at hSw); (try go_simp); (try with_reducible rfl); (try omega))
        simp only [Act.put, List.setIfInBounds_toArray, List.set_cons_zero, List.set_cons_succ]
        refine wpAnyH_take (i := 10) (oi := ⟨some 41, _, _, _, _, _⟩) (v := .bool true) rfl (by kernel_rfl) (by kernel_rfl) (by kernel_rfl) (fun _ _ _ h => h) (Or.inl ⟨by kernel_rfl, ?hyh5_11⟩) (by assumption) ?resth5_11
        case hyh5_11 => (intro w99 hSw; (try dsimp only at hSw); (try go_simp); (try with_reducible rfl); (try omega))
        simp only [Act.put, List.setIfInBounds_toArray, List.set_cons_zero, List.set_cons_succ]
        refine wpAnyH_take (i := 11) (oi := ⟨some 42, _, _, _, _, _⟩) (v := undef) rfl (by kernel_rfl) (by kernel_rfl) (by kernel_rfl) (fun _ _ _ h => h) (Or.inr ⟨by kernel_rfl, rfl⟩) (by assumption) ?resth5_12
        simp only [Act.put, List.setIfInBounds_toArray, List.set_cons_zero, List.set_cons_succ]
        refine wpAnyH_take (i := 12) (oi := ⟨some 43, _, _, _, _, _⟩) (v := undef) rfl (by kernel_rfl) (by kernel_rfl) (by kernel_rfl) (fun _ _ _ h => h) (Or.inr ⟨by kernel_rfl, rfl⟩) (by assumption) ?resth5_13
        simp only [Act.put, List.setIfInBounds_toArray, List.set_cons_zero, List.set_cons_succ]
        refine wpAnyH_take (i := 13) (oi := ⟨some 44, _, _, _, _, _⟩) (v := undef) rfl (by kernel_rfl) (by kernel_rfl) (by kernel_rfl) (fun _ _ _ h => h) (Or.inr ⟨by kernel_rfl, rfl⟩) (by assumption) ?resth5_14
        simp only [Act.put, List.setIfInBounds_toArray, List.set_cons_zero, List.set_cons_succ]
        refine wpAnyH_take (i := 14) (oi := ⟨some 45, _, _, _, _, _⟩) (v := undef) rfl (by kernel_rfl) (by kernel_rfl) (by kernel_rfl) (fun _ _ _ h => h) (Or.inr ⟨by kernel_rfl, rfl⟩) (by assumption) ?resth5_15
        simp only [Act.put, List.setIfInBounds_toArray, List.set_cons_zero, List.set_cons_succ]
        refine wpAnyH_take (i := 15) (oi := ⟨some 46, _, _, _, _, _⟩) (v := undef) rfl (by kernel_rfl) (by kernel_rfl) (by kernel_rfl) (fun _ _ _ h => h) (Or.inr ⟨by kernel_rfl, rfl⟩) (by assumption) ?resth5_16
        simp only [Act.put, List.setIfInBounds_toArray, List.set_cons_zero, List.set_cons_succ]
        refine wpAnyH_take (i := 16) (oi := ⟨some 47, _, _, _, _, _⟩) (v := .bool true) rfl (by kernel_rfl) (by kernel_rfl) (by kernel_rfl) (fun _ _ _ h => h) (Or.inl ⟨by kernel_rfl, ?hyh5_17⟩) (by assumption) ?resth5_17
        case hyh5_17 => (intro w99 hSw; (try dsimp only at hSw); (try go_simp); (try with_reducible rfl); (try omega))
        simp only [Act.put, List.setIfInBounds_toArray, List.set_cons_zero, List.set_cons_succ]
        refine wpAnyH_take (i := 17) (oi := ⟨some 48, _, _, _, _, _⟩) (v := .bool true) rfl (by kernel_rfl) (by kernel_rfl) (by kernel_rfl) (fun _ _ _ h => h) (Or.inl ⟨by kernel_rfl, ?hyh5_18⟩) (by assumption) ?resth5_18
        case hyh5_18 => (intro w99 hSw; (try dsimp only at hSw); (try go_simp); (try with_reducible rfl); (try omega))
        simp only [Act.put, List.setIfInBounds_toArray, List.set_cons_zero, List.set_cons_succ]
        refine wpAnyH_take (i := 18) (oi := ⟨some 49, _, _, _, _, _⟩) (v := undef) rfl (by kernel_rfl) (by kernel_rfl) (by kernel_rfl) (fun _ _ _ h => h) (Or.inr ⟨by kernel_rfl, rfl⟩) (by assumption) ?resth5_19
        simp only [Act.put, List.setIfInBounds_toArray, List.set_cons_zero, List.set_cons_succ]
        refine wpAnyH_take (i := 19) (oi := ⟨some 50, _, _, _, _, _⟩) (v := undef) rfl (by kernel_rfl) (by kernel_rfl) (by kernel_rfl) (fun _ _ _ h => h) (Or.inr ⟨by kernel_rfl, rfl⟩) (by assumption) ?resth5_20
        simp only [Act.put, List.setIfInBounds_toArray, List.set_cons_zero, List.set_cons_succ]
        refine wpAnyH_take (i := 20) (oi := ⟨some 51, _, _, _, _, _⟩) (v := undef) rfl (by kernel_rfl) (by kernel_rfl) (by kernel_rfl) (fun _ _ _ h => h) (Or.inr ⟨by kernel_rfl, rfl⟩) (by assumption) ?resth5_21
        simp only [Act.put, List.setIfInBounds_toArray, List.set_cons_zero, List.set_cons_succ]
        refine wpAnyH_take (i := 21) (oi := ⟨some 52, _, _, _, _, _⟩) (v := undef) rfl (by kernel_rfl) (by kernel_rfl) (by kernel_rfl) (fun _ _ _ h => h) (Or.inr ⟨by kernel_rfl, rfl⟩) (by assumption) ?resth5_22
        simp only [Act.put, List.setIfInBounds_toArray, List.set_cons_zero, List.set_cons_succ]
        refine wpAnyH_take (i := 22) (oi := ⟨some 53, _, _, _, _, _⟩) (v := undef) rfl (by kernel_rfl) (by kernel_rfl) (by kernel_rfl) (fun _ _ _ h => h) (Or.inr ⟨by kernel_rfl, rfl⟩) (by assumption) ?resth5_23
        simp only [Act.put, List.setIfInBounds_toArray, List.set_cons_zero, List.set_cons_succ]
        refine wpAnyH_take (i := 23) (oi := ⟨some 54, _, _, _, _, _⟩) (v := undef) rfl (by kernel_rfl) (by kernel_rfl) (by kernel_rfl) (fun _ _ _ h => h) (Or.inr ⟨by kernel_rfl, rfl⟩) (by assumption) ?resth5_24
        simp only [Act.put, List.setIfInBounds_toArray, List.set_cons_zero, List.set_cons_succ]
        refine wpAnyH_take (i := 24) (oi := ⟨some 55, _, _, _, _, _⟩) (v := undef) rfl (by kernel_rfl) (by kernel_rfl) (by kernel_rfl) (fun _ _ _ h => h) (Or.inr ⟨by kernel_rfl, rfl⟩) (by assumption) ?resth5_25
        simp only [Act.put, List.setIfInBounds_toArray, List.set_cons_zero, List.set_cons_succ]
        refine wpAnyH_take (i := 25) (oi := ⟨some 56, _, _, _, _, _⟩) (v := undef) rfl (by kernel_rfl) (by kernel_rfl) (by kernel_rfl) (fun _ _ _ h => h) (Or.inr ⟨by kernel_rfl, rfl⟩) (by assumption) ?resth5_26
        simp only [Act.put, List.setIfInBounds_toArray, List.set_cons_zero, List.set_cons_succ]
        refine wpAnyH_take (i := 26) (oi := ⟨some 57, _, _, _, _, _⟩) (v := undef) rfl (by kernel_rfl) (by kernel_rfl) (by kernel_rfl) (fun _ _ _ h => h) (Or.inr ⟨by kernel_rfl, rfl⟩) (by assumption) ?resth5_27
        simp only [Act.put, List.setIfInBounds_toArray, List.set_cons_zero, List.set_cons_succ]
        refine wpAnyH_take (i := 27) (oi := ⟨some 58, _, _, _, _, _⟩) (v := undef) rfl (by kernel_rfl) (by kernel_rfl) (by kernel_rfl) (fun _ _ _ h => h) (Or.inr ⟨by kernel_rfl, rfl⟩) (by assumption) ?resth5_28
        simp only [Act.put, List.setIfInBounds_toArray, List.set_cons_zero, List.set_cons_succ]
        refine wpAnyH_take (i := 28) (oi := ⟨some 59, _, _, _, _, _⟩) (v := .bool true) rfl (by kernel_rfl) (by kernel_rfl) (by kernel_rfl) (fun _ _ _ h => h) (Or.inl ⟨by kernel_rfl, ?hyh5_29⟩) (by assumption) ?resth5_29
        case hyh5_29 => (intro w99 hSw; (try dsimp only at hSw); (try go_simp); (try with_reducible rfl); (try omega))
        simp only [Act.put, List.setIfInBounds_toArray, List.set_cons_zero, List.set_cons_succ]
        refine wpAnyH_done (by kernel_rfl) ?_ _
        clear hHeld
        have X3 := Lib.hid (X2.out.go K3'.out)
        have K3 := Lib.hid (K2.out.trans K3'.out (by simp) : Kept [p] w w3)
        have B3 := Lib.hid (B2.out.kept K3'.out (by simp))
        have hx3 := B3.out.cell
        have hf3 := B3.out.frozen
        have hl3 := B3.out.lt
        clear hx2 hf2 hl2
        go_wp2
        go_ret
        exact ⟨by rw [HR.out]; rfl, by rw [HR.out]; exact X3.out.to K3.out⟩
    by_cases hb1 : (1048576 : Int) - (v.m : Int) < (n : Int)
    · have HR := Lib.hid (show appM M x b = (7, { M with n := n1, fail := f1 }) by unfold appM; rw [HO.out, hnm, hg]; simp [fulM, SZ.out, BLN.out, HLF.out, hb1])
      have j6 : ¬ M.quota - (sz : Int) < (n : Int) := ha
      have j7 : (1048576 : Int) - (v.m : Int) < (n : Int) := hb1
      clear hg hnm hf hv hb1
      go_upto_region 9 with (first
        | (go_at_call 62
           refine HOP.out.mono ?_
           rintro e w1 ⟨rfl, h1, hk1⟩
           have X1 := Lib.hid h1
           have K1 := Lib.hid hk1
           have B1 := Lib.hid (show Blk w1 p 87 #[.slice (some ⟨g1, o1, none⟩) M.files.length c1, .slice A2 M.now.length c2, .slice A3 M.sur.length c3, .slice A4 M.ch.length c4, .int .i64 M.quota, .int .i64 n1, .int .i64 f1] from h1.blk)
           have hx1 := B1.out.cell
           have hf1 := B1.out.frozen
           have hl1 := B1.out.lt
           clear h1 hk1)
        | (go_at_call 63
           refine (rmay_any w1 x HXL.out).mono ?_
           rintro e w9 ⟨rfl, rfl⟩
           rw [HNM.out])
        | (go_at_call 64
           refine (rfind_any w1 X1.out.nw x).mono ?_
           rintro e w2 ⟨rfl, hk2⟩
           rw [HGF.out]
           have X2 := Lib.hid (X1.out.go hk2)
           have K2 := Lib.hid (K1.out.trans hk2 (by simp) : Kept [p] w w2)
           have B2 := Lib.hid (B1.out.kept hk2 (by simp))
           have hx2 := B2.out.cell
           have hf2 := B2.out.frozen
           have hl2 := B2.out.lt
           clear hk2 hx1 hf1 hl1
           have e0 := (K2.out.cell (p := ⟨g1, o1 + i * 2, none⟩) hg1 (fun hm => HX.out.hd _ hgH.out hm)).trans d0
           have e1 := (K2.out.cell (p := ⟨g1, o1 + i * 2 + 1, none⟩) hg1 (fun hm => HX.out.hd _ hgH.out hm)).trans d1))
      refine wp_region_held_drew (S := (fun w' => ∀ j, w'.cell? ⟨p, j, none⟩ = (#[.slice (some ⟨g1, o1, none⟩) M.files.length c1, .slice A2 M.now.length c2, .slice A3 M.sur.length c3, .slice A4 M.ch.length c4, .int .i64 M.quota, .int .i64 n1, .int .i64 f1] : Array Value)[j]?)) (by kernel_rfl) (fun j => hx2 j) (fun hHeld => ?_)
      refine wpAnyH_take (i := 0) (oi := ⟨some 31, _, _, _, _, _⟩) (v := ?vh6_1) rfl (by kernel_rfl) (by kernel_rfl) (by kernel_rfl) (fun _ _ _ h => h) (Or.inl ⟨by kernel_rfl, ?hyh6_1⟩) (by assumption) ?resth6_1
      case hyh6_1 => (intro w99 hSw; (try dsimp only at hSw); (try go_simp); (try with_reducible rfl); (try omega))
      simp only [Act.put, List.setIfInBounds_toArray, List.set_cons_zero, List.set_cons_succ]
      refine wpAnyH_take (i := 1) (oi := ⟨some 32, _, _, _, _, _⟩) (v := ?vh6_2) rfl (by kernel_rfl) (by kernel_rfl) (by kernel_rfl) (fun _ _ _ h => h) (Or.inl ⟨by kernel_rfl, ?hyh6_2⟩) (by assumption) ?resth6_2
      case hyh6_2 => (intro w99 hSw; (try dsimp only at hSw); (try go_simp); (try with_reducible rfl); (try omega))
      simp only [Act.put, List.setIfInBounds_toArray, List.set_cons_zero, List.set_cons_succ]
      refine wpAnyH_take (i := 2) (oi := ⟨some 33, _, _, _, _, _⟩) (v := ?vh6_3) rfl (by kernel_rfl) (by kernel_rfl) (by kernel_rfl) (fun _ _ _ h => h) (Or.inl ⟨by kernel_rfl, ?hyh6_3⟩) (by assumption) ?resth6_3
      case hyh6_3 => (intro w99 hSw; (try dsimp only at hSw); (try go_simp); (try with_reducible rfl); (try omega))
      simp only [Act.put, List.setIfInBounds_toArray, List.set_cons_zero, List.set_cons_succ]
      refine wpAnyH_take (i := 3) (oi := ⟨some 34, _, _, _, _, _⟩) (v := ?vh6_4) rfl (by kernel_rfl) (by kernel_rfl) (by kernel_rfl) (fun _ _ _ h => h) (Or.inl ⟨by kernel_rfl, ?hyh6_4⟩) (by assumption) ?resth6_4
      case hyh6_4 => (intro w99 hSw; (try dsimp only at hSw); (try go_simp); (try with_reducible rfl); (try omega))
      simp only [Act.put, List.setIfInBounds_toArray, List.set_cons_zero, List.set_cons_succ]
      refine wpAnyH_take (i := 4) (oi := ⟨some 35, _, _, _, _, _⟩) (v := ?vh6_5) rfl (by kernel_rfl) (by kernel_rfl) (by kernel_rfl) (fun _ _ _ h => h) (Or.inl ⟨by kernel_rfl, ?hyh6_5⟩) (by assumption) ?resth6_5
      case hyh6_5 => (intro w99 hSw; (try dsimp only at hSw); (try go_simp); (try with_reducible rfl); (try omega))
      simp only [Act.put, List.setIfInBounds_toArray, List.set_cons_zero, List.set_cons_succ]
      refine wpAnyH_take (i := 5) (oi := ⟨some 36, _, _, _, _, _⟩) (v := ?vh6_6) rfl (by kernel_rfl) (by kernel_rfl) (by kernel_rfl) (fun _ _ _ h => h) (Or.inl ⟨by kernel_rfl, ?hyh6_6⟩) (by assumption) ?resth6_6
      case hyh6_6 => (intro w99 hSw; (try dsimp only at hSw); (try go_simp); (try with_reducible rfl); (try omega))
      simp only [Act.put, List.setIfInBounds_toArray, List.set_cons_zero, List.set_cons_succ]
      refine wpAnyH_take (i := 6) (oi := ⟨some 37, _, _, _, _, _⟩) (v := ?vh6_7) rfl (by kernel_rfl) (by kernel_rfl) (by kernel_rfl) (fun _ _ _ h => h) (Or.inl ⟨by kernel_rfl, ?hyh6_7⟩) (by assumption) ?resth6_7
      case hyh6_7 => (intro w99 hSw; (try dsimp only at hSw); (try go_simp); (try with_reducible rfl); (try omega))
      simp only [Act.put, List.setIfInBounds_toArray, List.set_cons_zero, List.set_cons_succ]
      refine wpAnyH_ready (rs := [7]) (by kernel_rfl) (by simp) ?_
      refine AllReadyH.cons (o := ⟨some 38, _, _, _, _, _⟩) rfl (fun KQ hKQ => ?w7h6_8) AllReadyH.nil
      case w7h6_8 =>
        go_simp
        go_at_call 55
        have hz := rSize_any (X2.out.go ((Kept.refl [] w2).drew)) OK.out.now (fun f hf => (OK.out.sure f hf).2) (by have := OK.out.nl; simp only; omega)
        rw [show sizM { M with n := n1, fail := f1 } = sz from SZ.out] at hz
        with_reducible refine hz.mono ?_
        clear hz
        rintro e w3 ⟨rfl, hk3⟩
        have K3' := Lib.hid (Kept.trans ((Kept.refl [] w2).drew) hk3 (by simp))
        clear hk3
        go_wp2_with fail
        refine hKQ.out _ _ (fun j => (B2.out.kept K3'.out (by simp)).cell j) (fun hHeld9 => ?_)
        clear hKQ KQ hHeld
        have hHeld := hHeld9
        clear hHeld9
        try simp only [Act.put, List.setIfInBounds_toArray, List.set_cons_zero, List.set_cons_succ]
        refine wpAnyH_take (i := 8) (oi := ⟨some 39, _, _, _, _, _⟩) (v := ?vh6_9) rfl (by kernel_rfl) (by kernel_rfl) (by kernel_rfl) (fun _ _ _ h => h) (Or.inl ⟨by kernel_rfl, ?hyh6_9⟩) (by assumption) ?resth6_9
        case hyh6_9 => (intro w99 hSw; (try dsimp only at hSw); (try go_simp); (try with_reducible rfl); (try omega))
        simp only [Act.put, List.setIfInBounds_toArray, List.set_cons_zero, List.set_cons_succ]
        refine wpAnyH_take (i := 9) (oi := ⟨some 40, _, _, _, _, _⟩) (v := .bool false) rfl (by kernel_rfl) (by kernel_rfl) (by kernel_rfl) (fun _ _ _ h => h) (Or.inl ⟨by kernel_rfl, ?hyh6_10⟩) (by assumption) ?resth6_10
        case hyh6_10 => (intro w99 hSw; (try dsimp only at hSw); (try go_simp); (try with_reducible rfl); (try omega))
        simp only [Act.put, List.setIfInBounds_toArray, List.set_cons_zero, List.set_cons_succ]
        refine wpAnyH_take (i := 10) (oi := ⟨some 41, _, _, _, _, _⟩) (v := .bool false) rfl (by kernel_rfl) (by kernel_rfl) (by kernel_rfl) (fun _ _ _ h => h) (Or.inl ⟨by kernel_rfl, ?hyh6_11⟩) (by assumption) ?resth6_11
        case hyh6_11 => (intro w99 hSw; (try dsimp only at hSw); (try go_simp); (try with_reducible rfl); (try omega))
        simp only [Act.put, List.setIfInBounds_toArray, List.set_cons_zero, List.set_cons_succ]
        refine wpAnyH_take (i := 11) (oi := ⟨some 42, _, _, _, _, _⟩) (v := ?vh6_12) rfl (by kernel_rfl) (by kernel_rfl) (by kernel_rfl) (fun _ _ _ h => h) (Or.inl ⟨by kernel_rfl, ?hyh6_12⟩) (by assumption) ?resth6_12
        case hyh6_12 => (intro w99 hSw; (try dsimp only at hSw); (try go_simp); (try with_reducible rfl); (try omega))
        simp only [Act.put, List.setIfInBounds_toArray, List.set_cons_zero, List.set_cons_succ]
        refine wpAnyH_take (i := 12) (oi := ⟨some 43, _, _, _, _, _⟩) (v := ?vh6_13) rfl (by kernel_rfl) (by kernel_rfl) (by kernel_rfl) (fun _ _ _ h => h) (Or.inl ⟨by kernel_rfl, ?hyh6_13⟩) (by assumption) ?resth6_13
        case hyh6_13 => (intro w99 hSw; (try dsimp only at hSw); (try go_simp); (try with_reducible rfl); (try omega))
        simp only [Act.put, List.setIfInBounds_toArray, List.set_cons_zero, List.set_cons_succ]
        refine wpAnyH_take (i := 13) (oi := ⟨some 44, _, _, _, _, _⟩) (v := ?vh6_14) rfl (by kernel_rfl) (by kernel_rfl) (by kernel_rfl) (fun _ _ _ h => h) (Or.inl ⟨by kernel_rfl, ?hyh6_14⟩) (by assumption) ?resth6_14
        case hyh6_14 => (intro w99 hSw; (try dsimp only at hSw); (try go_simp); (try with_reducible rfl); (try omega))
        simp only [Act.put, List.setIfInBounds_toArray, List.set_cons_zero, List.set_cons_succ]
        refine wpAnyH_take (i := 14) (oi := ⟨some 45, _, _, _, _, _⟩) (v := ?vh6_15) rfl (by kernel_rfl) (by kernel_rfl) (by kernel_rfl) (fun _ _ _ h => h) (Or.inl ⟨by kernel_rfl, ?hyh6_15⟩) (by assumption) ?resth6_15
        case hyh6_15 => (intro w99 hSw; (try dsimp only at hSw); (try go_simp); (try with_reducible rfl); (try omega))
        simp only [Act.put, List.setIfInBounds_toArray, List.set_cons_zero, List.set_cons_succ]
        refine wpAnyH_take (i := 15) (oi := ⟨some 46, _, _, _, _, _⟩) (v := .bool true) rfl (by kernel_rfl) (by kernel_rfl) (by kernel_rfl) (fun _ _ _ h => h) (Or.inl ⟨by kernel_rfl, ?hyh6_16⟩) (by assumption) ?resth6_16
        case hyh6_16 => (intro w99 hSw; (try dsimp only at hSw); (try go_simp); (try with_reducible rfl); (try omega))
        simp only [Act.put, List.setIfInBounds_toArray, List.set_cons_zero, List.set_cons_succ]
        refine wpAnyH_take (i := 16) (oi := ⟨some 47, _, _, _, _, _⟩) (v := .bool true) rfl (by kernel_rfl) (by kernel_rfl) (by kernel_rfl) (fun _ _ _ h => h) (Or.inl ⟨by kernel_rfl, ?hyh6_17⟩) (by assumption) ?resth6_17
        case hyh6_17 => (intro w99 hSw; (try dsimp only at hSw); (try go_simp); (try with_reducible rfl); (try omega))
        simp only [Act.put, List.setIfInBounds_toArray, List.set_cons_zero, List.set_cons_succ]
        refine wpAnyH_take (i := 17) (oi := ⟨some 48, _, _, _, _, _⟩) (v := .bool true) rfl (by kernel_rfl) (by kernel_rfl) (by kernel_rfl) (fun _ _ _ h => h) (Or.inl ⟨by kernel_rfl, ?hyh6_18⟩) (by assumption) ?resth6_18
        case hyh6_18 => (intro w99 hSw; (try dsimp only at hSw); (try go_simp); (try with_reducible rfl); (try omega))
        simp only [Act.put, List.setIfInBounds_toArray, List.set_cons_zero, List.set_cons_succ]
        refine wpAnyH_take (i := 18) (oi := ⟨some 49, _, _, _, _, _⟩) (v := undef) rfl (by kernel_rfl) (by kernel_rfl) (by kernel_rfl) (fun _ _ _ h => h) (Or.inr ⟨by kernel_rfl, rfl⟩) (by assumption) ?resth6_19
        simp only [Act.put, List.setIfInBounds_toArray, List.set_cons_zero, List.set_cons_succ]
        refine wpAnyH_take (i := 19) (oi := ⟨some 50, _, _, _, _, _⟩) (v := undef) rfl (by kernel_rfl) (by kernel_rfl) (by kernel_rfl) (fun _ _ _ h => h) (Or.inr ⟨by kernel_rfl, rfl⟩) (by assumption) ?resth6_20
        simp only [Act.put, List.setIfInBounds_toArray, List.set_cons_zero, List.set_cons_succ]
        refine wpAnyH_take (i := 20) (oi := ⟨some 51, _, _, _, _, _⟩) (v := undef) rfl (by kernel_rfl) (by kernel_rfl) (by kernel_rfl) (fun _ _ _ h => h) (Or.inr ⟨by kernel_rfl, rfl⟩) (by assumption) ?resth6_21
        simp only [Act.put, List.setIfInBounds_toArray, List.set_cons_zero, List.set_cons_succ]
        refine wpAnyH_take (i := 21) (oi := ⟨some 52, _, _, _, _, _⟩) (v := undef) rfl (by kernel_rfl) (by kernel_rfl) (by kernel_rfl) (fun _ _ _ h => h) (Or.inr ⟨by kernel_rfl, rfl⟩) (by assumption) ?resth6_22
        simp only [Act.put, List.setIfInBounds_toArray, List.set_cons_zero, List.set_cons_succ]
        refine wpAnyH_take (i := 22) (oi := ⟨some 53, _, _, _, _, _⟩) (v := undef) rfl (by kernel_rfl) (by kernel_rfl) (by kernel_rfl) (fun _ _ _ h => h) (Or.inr ⟨by kernel_rfl, rfl⟩) (by assumption) ?resth6_23
        simp only [Act.put, List.setIfInBounds_toArray, List.set_cons_zero, List.set_cons_succ]
        refine wpAnyH_take (i := 23) (oi := ⟨some 54, _, _, _, _, _⟩) (v := undef) rfl (by kernel_rfl) (by kernel_rfl) (by kernel_rfl) (fun _ _ _ h => h) (Or.inr ⟨by kernel_rfl, rfl⟩) (by assumption) ?resth6_24
        simp only [Act.put, List.setIfInBounds_toArray, List.set_cons_zero, List.set_cons_succ]
        refine wpAnyH_take (i := 24) (oi := ⟨some 55, _, _, _, _, _⟩) (v := undef) rfl (by kernel_rfl) (by kernel_rfl) (by kernel_rfl) (fun _ _ _ h => h) (Or.inr ⟨by kernel_rfl, rfl⟩) (by assumption) ?resth6_25
        simp only [Act.put, List.setIfInBounds_toArray, List.set_cons_zero, List.set_cons_succ]
        refine wpAnyH_take (i := 25) (oi := ⟨some 56, _, _, _, _, _⟩) (v := undef) rfl (by kernel_rfl) (by kernel_rfl) (by kernel_rfl) (fun _ _ _ h => h) (Or.inr ⟨by kernel_rfl, rfl⟩) (by assumption) ?resth6_26
        simp only [Act.put, List.setIfInBounds_toArray, List.set_cons_zero, List.set_cons_succ]
        refine wpAnyH_take (i := 26) (oi := ⟨some 57, _, _, _, _, _⟩) (v := undef) rfl (by kernel_rfl) (by kernel_rfl) (by kernel_rfl) (fun _ _ _ h => h) (Or.inr ⟨by kernel_rfl, rfl⟩) (by assumption) ?resth6_27
        simp only [Act.put, List.setIfInBounds_toArray, List.set_cons_zero, List.set_cons_succ]
        refine wpAnyH_take (i := 27) (oi := ⟨some 58, _, _, _, _, _⟩) (v := undef) rfl (by kernel_rfl) (by kernel_rfl) (by kernel_rfl) (fun _ _ _ h => h) (Or.inr ⟨by kernel_rfl, rfl⟩) (by assumption) ?resth6_28
        simp only [Act.put, List.setIfInBounds_toArray, List.set_cons_zero, List.set_cons_succ]
        refine wpAnyH_take (i := 28) (oi := ⟨some 59, _, _, _, _, _⟩) (v := .bool true) rfl (by kernel_rfl) (by kernel_rfl) (by kernel_rfl) (fun _ _ _ h => h) (Or.inl ⟨by kernel_rfl, ?hyh6_29⟩) (by assumption) ?resth6_29
        case hyh6_29 => (intro w99 hSw; (try dsimp only at hSw); (try go_simp); (try with_reducible rfl); (try omega))
        simp only [Act.put, List.setIfInBounds_toArray, List.set_cons_zero, List.set_cons_succ]
        refine wpAnyH_done (by kernel_rfl) ?_ _
        clear hHeld
        have X3 := Lib.hid (X2.out.go K3'.out)
        have K3 := Lib.hid (K2.out.trans K3'.out (by simp) : Kept [p] w w3)
        have B3 := Lib.hid (B2.out.kept K3'.out (by simp))
        have hx3 := B3.out.cell
        have hf3 := B3.out.frozen
        have hl3 := B3.out.lt
        clear hx2 hf2 hl2
        go_wp2
        go_ret
        exact ⟨by rw [HR.out]; rfl, by rw [HR.out]; exact X3.out.to K3.out⟩
    have HRB := Lib.hid (show appM M x b = (0, { M with n := n1, fail := f1, files := M.files.set i ⟨f.b ++ b, f.sure⟩ }) by
      unfold appM
      rw [HO.out, hnm, hg]
      simp [fulM, SZ.out, BLN.out, HLF.out, ha, hb1, appF_some hf])
    have j6 : ¬ M.quota - (sz : Int) < (n : Int) := ha
    have j7 : ¬ (1048576 : Int) - (v.m : Int) < (n : Int) := hb1
    have HFI := Lib.hid hf
    clear hg hnm ha hb1 hf hv
    go_upto_region 9 with (first
      | (go_at_call 62
         refine HOP.out.mono ?_
         rintro e w1 ⟨rfl, h1, hk1⟩
         have X1 := Lib.hid h1
         have K1 := Lib.hid hk1
         have B1 := Lib.hid (show Blk w1 p 87 #[.slice (some ⟨g1, o1, none⟩) M.files.length c1, .slice A2 M.now.length c2, .slice A3 M.sur.length c3, .slice A4 M.ch.length c4, .int .i64 M.quota, .int .i64 n1, .int .i64 f1] from h1.blk)
         have hx1 := B1.out.cell
         have hf1 := B1.out.frozen
         have hl1 := B1.out.lt
         clear h1 hk1)
      | (go_at_call 63
         refine (rmay_any w1 x HXL.out).mono ?_
         rintro e w9 ⟨rfl, rfl⟩
         rw [HNM.out])
      | (go_at_call 64
         refine (rfind_any w1 X1.out.nw x).mono ?_
         rintro e w2 ⟨rfl, hk2⟩
         rw [HGF.out]
         have X2 := Lib.hid (X1.out.go hk2)
         have K2 := Lib.hid (K1.out.trans hk2 (by simp) : Kept [p] w w2)
         have B2 := Lib.hid (B1.out.kept hk2 (by simp))
         have hx2 := B2.out.cell
         have hf2 := B2.out.frozen
         have hl2 := B2.out.lt
         clear hk2 hx1 hf1 hl1
         have e0 := (K2.out.cell (p := ⟨g1, o1 + i * 2, none⟩) hg1 (fun hm => HX.out.hd _ hgH.out hm)).trans d0
         have e1 := (K2.out.cell (p := ⟨g1, o1 + i * 2 + 1, none⟩) hg1 (fun hm => HX.out.hd _ hgH.out hm)).trans d1))
    refine wp_region_held_drew (S := (fun w' => ∀ j, w'.cell? ⟨p, j, none⟩ = (#[.slice (some ⟨g1, o1, none⟩) M.files.length c1, .slice A2 M.now.length c2, .slice A3 M.sur.length c3, .slice A4 M.ch.length c4, .int .i64 M.quota, .int .i64 n1, .int .i64 f1] : Array Value)[j]?)) (by kernel_rfl) (fun j => hx2 j) (fun hHeld => ?_)
    refine wpAnyH_take (i := 0) (oi := ⟨some 31, _, _, _, _, _⟩) (v := ?vh7_1) rfl (by kernel_rfl) (by kernel_rfl) (by kernel_rfl) (fun _ _ _ h => h) (Or.inl ⟨by kernel_rfl, ?hyh7_1⟩) (by assumption) ?resth7_1
    case hyh7_1 => (intro w99 hSw; (try dsimp only at hSw); (try go_simp); (try with_reducible rfl); (try omega))
    simp only [Act.put, List.setIfInBounds_toArray, List.set_cons_zero, List.set_cons_succ]
    refine wpAnyH_take (i := 1) (oi := ⟨some 32, _, _, _, _, _⟩) (v := ?vh7_2) rfl (by kernel_rfl) (by kernel_rfl) (by kernel_rfl) (fun _ _ _ h => h) (Or.inl ⟨by kernel_rfl, ?hyh7_2⟩) (by assumption) ?resth7_2
    case hyh7_2 => (intro w99 hSw; (try dsimp only at hSw); (try go_simp); (try with_reducible rfl); (try omega))
    simp only [Act.put, List.setIfInBounds_toArray, List.set_cons_zero, List.set_cons_succ]
    refine wpAnyH_take (i := 2) (oi := ⟨some 33, _, _, _, _, _⟩) (v := ?vh7_3) rfl (by kernel_rfl) (by kernel_rfl) (by kernel_rfl) (fun _ _ _ h => h) (Or.inl ⟨by kernel_rfl, ?hyh7_3⟩) (by assumption) ?resth7_3
    case hyh7_3 => (intro w99 hSw; (try dsimp only at hSw); (try go_simp); (try with_reducible rfl); (try omega))
    simp only [Act.put, List.setIfInBounds_toArray, List.set_cons_zero, List.set_cons_succ]
    refine wpAnyH_take (i := 3) (oi := ⟨some 34, _, _, _, _, _⟩) (v := ?vh7_4) rfl (by kernel_rfl) (by kernel_rfl) (by kernel_rfl) (fun _ _ _ h => h) (Or.inl ⟨by kernel_rfl, ?hyh7_4⟩) (by assumption) ?resth7_4
    case hyh7_4 => (intro w99 hSw; (try dsimp only at hSw); (try go_simp); (try with_reducible rfl); (try omega))
    simp only [Act.put, List.setIfInBounds_toArray, List.set_cons_zero, List.set_cons_succ]
    refine wpAnyH_take (i := 4) (oi := ⟨some 35, _, _, _, _, _⟩) (v := ?vh7_5) rfl (by kernel_rfl) (by kernel_rfl) (by kernel_rfl) (fun _ _ _ h => h) (Or.inl ⟨by kernel_rfl, ?hyh7_5⟩) (by assumption) ?resth7_5
    case hyh7_5 => (intro w99 hSw; (try dsimp only at hSw); (try go_simp); (try with_reducible rfl); (try omega))
    simp only [Act.put, List.setIfInBounds_toArray, List.set_cons_zero, List.set_cons_succ]
    refine wpAnyH_take (i := 5) (oi := ⟨some 36, _, _, _, _, _⟩) (v := ?vh7_6) rfl (by kernel_rfl) (by kernel_rfl) (by kernel_rfl) (fun _ _ _ h => h) (Or.inl ⟨by kernel_rfl, ?hyh7_6⟩) (by assumption) ?resth7_6
    case hyh7_6 => (intro w99 hSw; (try dsimp only at hSw); (try go_simp); (try with_reducible rfl); (try omega))
    simp only [Act.put, List.setIfInBounds_toArray, List.set_cons_zero, List.set_cons_succ]
    refine wpAnyH_take (i := 6) (oi := ⟨some 37, _, _, _, _, _⟩) (v := ?vh7_7) rfl (by kernel_rfl) (by kernel_rfl) (by kernel_rfl) (fun _ _ _ h => h) (Or.inl ⟨by kernel_rfl, ?hyh7_7⟩) (by assumption) ?resth7_7
    case hyh7_7 => (intro w99 hSw; (try dsimp only at hSw); (try go_simp); (try with_reducible rfl); (try omega))
    simp only [Act.put, List.setIfInBounds_toArray, List.set_cons_zero, List.set_cons_succ]
    refine wpAnyH_ready (rs := [7]) (by kernel_rfl) (by simp) ?_
    refine AllReadyH.cons (o := ⟨some 38, _, _, _, _, _⟩) rfl (fun KQ hKQ => ?w7h7_8) AllReadyH.nil
    case w7h7_8 =>
      go_simp
      go_at_call 55
      have hz := rSize_any (X2.out.go ((Kept.refl [] w2).drew)) OK.out.now (fun f hf => (OK.out.sure f hf).2) (by have := OK.out.nl; simp only; omega)
      rw [show sizM { M with n := n1, fail := f1 } = sz from SZ.out] at hz
      with_reducible refine hz.mono ?_
      clear hz
      rintro e w3 ⟨rfl, hk3⟩
      have K3' := Lib.hid (Kept.trans ((Kept.refl [] w2).drew) hk3 (by simp))
      clear hk3
      go_wp2_with fail
      refine hKQ.out _ _ (fun j => (B2.out.kept K3'.out (by simp)).cell j) (fun hHeld9 => ?_)
      clear hKQ KQ hHeld
      have hHeld := hHeld9
      clear hHeld9
      try simp only [Act.put, List.setIfInBounds_toArray, List.set_cons_zero, List.set_cons_succ]
      refine wpAnyH_take (i := 8) (oi := ⟨some 39, _, _, _, _, _⟩) (v := ?vh7_9) rfl (by kernel_rfl) (by kernel_rfl) (by kernel_rfl) (fun _ _ _ h => h) (Or.inl ⟨by kernel_rfl, ?hyh7_9⟩) (by assumption) ?resth7_9
      case hyh7_9 => (intro w99 hSw; (try dsimp only at hSw); (try go_simp); (try with_reducible rfl); (try omega))
      simp only [Act.put, List.setIfInBounds_toArray, List.set_cons_zero, List.set_cons_succ]
      refine wpAnyH_take (i := 9) (oi := ⟨some 40, _, _, _, _, _⟩) (v := .bool false) rfl (by kernel_rfl) (by kernel_rfl) (by kernel_rfl) (fun _ _ _ h => h) (Or.inl ⟨by kernel_rfl, ?hyh7_10⟩) (by assumption) ?resth7_10
      case hyh7_10 => (intro w99 hSw; (try dsimp only at hSw); (try go_simp); (try with_reducible rfl); (try omega))
      simp only [Act.put, List.setIfInBounds_toArray, List.set_cons_zero, List.set_cons_succ]
      refine wpAnyH_take (i := 10) (oi := ⟨some 41, _, _, _, _, _⟩) (v := .bool false) rfl (by kernel_rfl) (by kernel_rfl) (by kernel_rfl) (fun _ _ _ h => h) (Or.inl ⟨by kernel_rfl, ?hyh7_11⟩) (by assumption) ?resth7_11
      case hyh7_11 => (intro w99 hSw; (try dsimp only at hSw); (try go_simp); (try with_reducible rfl); (try omega))
      simp only [Act.put, List.setIfInBounds_toArray, List.set_cons_zero, List.set_cons_succ]
      refine wpAnyH_take (i := 11) (oi := ⟨some 42, _, _, _, _, _⟩) (v := ?vh7_12) rfl (by kernel_rfl) (by kernel_rfl) (by kernel_rfl) (fun _ _ _ h => h) (Or.inl ⟨by kernel_rfl, ?hyh7_12⟩) (by assumption) ?resth7_12
      case hyh7_12 => (intro w99 hSw; (try dsimp only at hSw); (try go_simp); (try with_reducible rfl); (try omega))
      simp only [Act.put, List.setIfInBounds_toArray, List.set_cons_zero, List.set_cons_succ]
      refine wpAnyH_take (i := 12) (oi := ⟨some 43, _, _, _, _, _⟩) (v := ?vh7_13) rfl (by kernel_rfl) (by kernel_rfl) (by kernel_rfl) (fun _ _ _ h => h) (Or.inl ⟨by kernel_rfl, ?hyh7_13⟩) (by assumption) ?resth7_13
      case hyh7_13 => (intro w99 hSw; (try dsimp only at hSw); (try go_simp); (try with_reducible rfl); (try omega))
      simp only [Act.put, List.setIfInBounds_toArray, List.set_cons_zero, List.set_cons_succ]
      refine wpAnyH_take (i := 13) (oi := ⟨some 44, _, _, _, _, _⟩) (v := ?vh7_14) rfl (by kernel_rfl) (by kernel_rfl) (by kernel_rfl) (fun _ _ _ h => h) (Or.inl ⟨by kernel_rfl, ?hyh7_14⟩) (by assumption) ?resth7_14
      case hyh7_14 => (intro w99 hSw; (try dsimp only at hSw); (try go_simp); (try with_reducible rfl); (try omega))
      simp only [Act.put, List.setIfInBounds_toArray, List.set_cons_zero, List.set_cons_succ]
      refine wpAnyH_take (i := 14) (oi := ⟨some 45, _, _, _, _, _⟩) (v := ?vh7_15) rfl (by kernel_rfl) (by kernel_rfl) (by kernel_rfl) (fun _ _ _ h => h) (Or.inl ⟨by kernel_rfl, ?hyh7_15⟩) (by assumption) ?resth7_15
      case hyh7_15 => (intro w99 hSw; (try dsimp only at hSw); (try go_simp); (try with_reducible rfl); (try omega))
      simp only [Act.put, List.setIfInBounds_toArray, List.set_cons_zero, List.set_cons_succ]
      refine wpAnyH_take (i := 15) (oi := ⟨some 46, _, _, _, _, _⟩) (v := .bool false) rfl (by kernel_rfl) (by kernel_rfl) (by kernel_rfl) (fun _ _ _ h => h) (Or.inl ⟨by kernel_rfl, ?hyh7_16⟩) (by assumption) ?resth7_16
      case hyh7_16 => (intro w99 hSw; (try dsimp only at hSw); (try go_simp); (try with_reducible rfl); (try omega))
      simp only [Act.put, List.setIfInBounds_toArray, List.set_cons_zero, List.set_cons_succ]
      refine wpAnyH_take (i := 16) (oi := ⟨some 47, _, _, _, _, _⟩) (v := .bool false) rfl (by kernel_rfl) (by kernel_rfl) (by kernel_rfl) (fun _ _ _ h => h) (Or.inl ⟨by kernel_rfl, ?hyh7_17⟩) (by assumption) ?resth7_17
      case hyh7_17 => (intro w99 hSw; (try dsimp only at hSw); (try go_simp); (try with_reducible rfl); (try omega))
      simp only [Act.put, List.setIfInBounds_toArray, List.set_cons_zero, List.set_cons_succ]
      refine wpAnyH_take (i := 17) (oi := ⟨some 48, _, _, _, _, _⟩) (v := .bool false) rfl (by kernel_rfl) (by kernel_rfl) (by kernel_rfl) (fun _ _ _ h => h) (Or.inl ⟨by kernel_rfl, ?hyh7_18⟩) (by assumption) ?resth7_18
      case hyh7_18 => (intro w99 hSw; (try dsimp only at hSw); (try go_simp); (try with_reducible rfl); (try omega))
      simp only [Act.put, List.setIfInBounds_toArray, List.set_cons_zero, List.set_cons_succ]
      refine wpAnyH_take (i := 18) (oi := ⟨some 49, _, _, _, _, _⟩) (v := ?vh7_19) rfl (by kernel_rfl) (by kernel_rfl) (by kernel_rfl) (fun _ _ _ h => h) (Or.inl ⟨by kernel_rfl, ?hyh7_19⟩) (by assumption) ?resth7_19
      case hyh7_19 => (intro w99 hSw; (try dsimp only at hSw); (try go_simp); (try with_reducible rfl); (try omega))
      simp only [Act.put, List.setIfInBounds_toArray, List.set_cons_zero, List.set_cons_succ]
      refine wpAnyH_take (i := 19) (oi := ⟨some 50, _, _, _, _, _⟩) (v := .bool false) rfl (by kernel_rfl) (by kernel_rfl) (by kernel_rfl) (fun _ _ _ h => h) (Or.inl ⟨by kernel_rfl, ?hyh7_20⟩) (by assumption) ?resth7_20
      case hyh7_20 => (intro w99 hSw; (try dsimp only at hSw); (try go_simp); (try with_reducible rfl); (try omega))
      simp only [Act.put, List.setIfInBounds_toArray, List.set_cons_zero, List.set_cons_succ]
      refine wpAnyH_take (i := 20) (oi := ⟨some 51, _, _, _, _, _⟩) (v := .bool false) rfl (by kernel_rfl) (by kernel_rfl) (by kernel_rfl) (fun _ _ _ h => h) (Or.inl ⟨by kernel_rfl, ?hyh7_21⟩) (by assumption) ?resth7_21
      case hyh7_21 => (intro w99 hSw; (try dsimp only at hSw); (try go_simp); (try with_reducible rfl); (try omega))
      simp only [Act.put, List.setIfInBounds_toArray, List.set_cons_zero, List.set_cons_succ]
      refine wpAnyH_take (i := 21) (oi := ⟨some 52, _, _, _, _, _⟩) (v := undef) rfl (by kernel_rfl) (by kernel_rfl) (by kernel_rfl) (fun _ _ _ h => h) (Or.inr ⟨by kernel_rfl, rfl⟩) (by assumption) ?resth7_22
      simp only [Act.put, List.setIfInBounds_toArray, List.set_cons_zero, List.set_cons_succ]
      refine wpAnyH_take (i := 22) (oi := ⟨some 53, _, _, _, _, _⟩) (v := undef) rfl (by kernel_rfl) (by kernel_rfl) (by kernel_rfl) (fun _ _ _ h => h) (Or.inr ⟨by kernel_rfl, rfl⟩) (by assumption) ?resth7_23
      simp only [Act.put, List.setIfInBounds_toArray, List.set_cons_zero, List.set_cons_succ]
      refine wpAnyH_take (i := 23) (oi := ⟨some 54, _, _, _, _, _⟩) (v := undef) rfl (by kernel_rfl) (by kernel_rfl) (by kernel_rfl) (fun _ _ _ h => h) (Or.inr ⟨by kernel_rfl, rfl⟩) (by assumption) ?resth7_24
      simp only [Act.put, List.setIfInBounds_toArray, List.set_cons_zero, List.set_cons_succ]
      refine wpAnyH_take (i := 24) (oi := ⟨some 55, _, _, _, _, _⟩) (v := undef) rfl (by kernel_rfl) (by kernel_rfl) (by kernel_rfl) (fun _ _ _ h => h) (Or.inr ⟨by kernel_rfl, rfl⟩) (by assumption) ?resth7_25
      simp only [Act.put, List.setIfInBounds_toArray, List.set_cons_zero, List.set_cons_succ]
      refine wpAnyH_take (i := 25) (oi := ⟨some 56, _, _, _, _, _⟩) (v := undef) rfl (by kernel_rfl) (by kernel_rfl) (by kernel_rfl) (fun _ _ _ h => h) (Or.inr ⟨by kernel_rfl, rfl⟩) (by assumption) ?resth7_26
      simp only [Act.put, List.setIfInBounds_toArray, List.set_cons_zero, List.set_cons_succ]
      refine wpAnyH_take (i := 26) (oi := ⟨some 57, _, _, _, _, _⟩) (v := undef) rfl (by kernel_rfl) (by kernel_rfl) (by kernel_rfl) (fun _ _ _ h => h) (Or.inr ⟨by kernel_rfl, rfl⟩) (by assumption) ?resth7_27
      simp only [Act.put, List.setIfInBounds_toArray, List.set_cons_zero, List.set_cons_succ]
      refine wpAnyH_take (i := 27) (oi := ⟨some 58, _, _, _, _, _⟩) (v := .bool false) rfl (by kernel_rfl) (by kernel_rfl) (by kernel_rfl) (fun _ _ _ h => h) (Or.inl ⟨by kernel_rfl, ?hyh7_28⟩) (by assumption) ?resth7_28
      case hyh7_28 => (intro w99 hSw; (try dsimp only at hSw); (try go_simp); (try with_reducible rfl); (try omega))
      simp only [Act.put, List.setIfInBounds_toArray, List.set_cons_zero, List.set_cons_succ]
      refine wpAnyH_take (i := 28) (oi := ⟨some 59, _, _, _, _, _⟩) (v := .bool false) rfl (by kernel_rfl) (by kernel_rfl) (by kernel_rfl) (fun _ _ _ h => h) (Or.inl ⟨by kernel_rfl, ?hyh7_29⟩) (by assumption) ?resth7_29
      case hyh7_29 => (intro w99 hSw; (try dsimp only at hSw); (try go_simp); (try with_reducible rfl); (try omega))
      simp only [Act.put, List.setIfInBounds_toArray, List.set_cons_zero, List.set_cons_succ]
      refine wpAnyH_done (by kernel_rfl) ?_ _
      clear hHeld
      have X3 := Lib.hid (X2.out.go K3'.out)
      have K3 := Lib.hid (K2.out.trans K3'.out (by simp) : Kept [p] w w3)
      have B3 := Lib.hid (B2.out.kept K3'.out (by simp))
      have hx3 := B3.out.cell
      have hf3 := B3.out.frozen
      have hl3 := B3.out.lt
      clear hx2 hf2 hl2
      go_upto_region 15 with fail
      have T3 := Lib.hid (X3.out.to K3.out)
      obtain ⟨HQB, vsB, E1, d1, E2, d2, E3, d3, E4, d4, xB, kB, hhB⟩ := T3.out
      obtain ⟨MB, hMB⟩ : ∃ MB, ({ M with n := n1, fail := f1 } : RkD) = MB := ⟨_, rfl⟩
      rw [hMB] at xB
      have hfi : MB.files[i]? = some f := by rw [← hMB]; exact HFI.out
      have HRC := Lib.hid (show appM M x b = (0, { MB with files := MB.files.set i (⟨f.b ++ b, f.sure⟩ : FlE) }) by rw [HRB.out, ← hMB])
      have hFB := Lib.hid (show ((0 : Int), { MB with files := MB.files.set i (⟨f.b ++ b, f.sure⟩ : FlE) }) = ((0 : Int), { MB with files := MB.files.set i (⟨[] ++ f.b ++ b, f.sure⟩ : FlE) }) from rfl)
      have NFB := Lib.hid (show MB.files.length ≤ 401 by rw [← hMB]; have := NFL.out; simp only; omega)
      have SFB := Lib.hid SF.out.2
      clear d0 e0 e1 hx3 hf3 hl3 hg1 hgG hMB HRB j0 j1 vm2 vm3 vm HIL HFB hgH hil T3 X3
      have XB := Lib.hid xB
      have KB := Lib.hid kB
      have HHB := Lib.hid hhB
      have hil := (List.getElem?_eq_some_iff.1 hfi).1
      have HILB := Lib.hid hil
      obtain ⟨v, hv⟩ : ∃ v, vsB[i]? = some v := ⟨_, List.getElem?_eq_getElem (by rw [xB.fb.1]; exact hil)⟩
      obtain ⟨g1, o1, hA1, hg1B, hgG, e0B, e1B⟩ := xB.fv.at hv
      subst hA1
      have hgHB := Lib.hid hgG
      have FBX := Lib.hid (xB.fb.2 i v f hv hfi)
      have SRCB := Lib.hid FBX.out.1
      have VSU := Lib.hid FBX.out.2
      have vm2 := SRCB.out.len.2.1
      have vm3 := SRCB.out.len.2.2.1
      unfold maxLen at vm3
      have RBB := Lib.hid (HB.out.kept kB (fun q hm hp => HBP.out (by simp at hp; subst hp; exact hm)))
      have SLB := Lib.hid (show ([] : Bs).length + f.b.length ≤ 1000000000 by have := SFB.out; simp only [List.length_nil]; omega)
      have SLC := Lib.hid (show ([] ++ f.b : Bs).length + b.length ≤ 1000000000 by have := SFB.out; have := BLN.out; rw [List.nil_append]; omega)
      have BB := Lib.hid xB.blk
      obtain ⟨NF, hNF⟩ : ∃ NF, MB.files.length = NF := ⟨_, rfl⟩
      have hxB : ∀ j, w3.cell? ⟨p, j, none⟩ = (#[.slice (some ⟨g1, o1, none⟩) NF d1, .slice E2 MB.now.length d2, .slice E3 MB.sur.length d3, .slice E4 MB.ch.length d4, .int .i64 MB.quota, .int .i64 MB.n, .int .i64 MB.fail] : Array Value)[j]? := by rw [← hNF]; exact BB.out.cell
      have jf0 : (0 : Int) ≤ (i : Int) := by omega
      have jf1 : (i : Int) < (NF : Int) := by omega
      rw [hNF] at BB
      clear xB kB hhB hil hv hgG hfi hNF
      refine wp_region_held_drew (S := (fun w' => w'.cell? ⟨g1, o1 + i * 2, none⟩ = some (.slice v.A v.m v.c) ∧ w'.cell? ⟨g1, o1 + i * 2 + 1, none⟩ = some (.int .i64 (v.sure : Nat)))) (by kernel_rfl) (⟨e0B, e1B⟩) (fun hHeld => ?_)
      refine wpAnyH_take (i := 0) (oi := ⟨some 83, _, _, _, _, _⟩) (v := ?vh8_1) rfl (by kernel_rfl) (by kernel_rfl) (by kernel_rfl) (fun _ _ _ h => h) (Or.inl ⟨by kernel_rfl, ?hyh8_1⟩) (by assumption) ?resth8_1
      case hyh8_1 => (intro w99 hSw; (try dsimp only at hSw); obtain ⟨hs1, hs2⟩ := hSw; (try go_simp); (try with_reducible rfl); (try omega))
      simp only [Act.put, List.setIfInBounds_toArray, List.set_cons_zero, List.set_cons_succ]
      refine wpAnyH_take (i := 1) (oi := ⟨some 84, _, _, _, _, _⟩) (v := ?vh8_2) rfl (by kernel_rfl) (by kernel_rfl) (by kernel_rfl) (fun _ _ _ h => h) (Or.inl ⟨by kernel_rfl, ?hyh8_2⟩) (by assumption) ?resth8_2
      case hyh8_2 => (intro w99 hSw; (try dsimp only at hSw); obtain ⟨hs1, hs2⟩ := hSw; (try go_simp); (try with_reducible rfl); (try omega))
      simp only [Act.put, List.setIfInBounds_toArray, List.set_cons_zero, List.set_cons_succ]
      refine wpAnyH_take (i := 2) (oi := ⟨some 85, _, _, _, _, _⟩) (v := ?vh8_3) rfl (by kernel_rfl) (by kernel_rfl) (by kernel_rfl) (fun _ _ _ h => h) (Or.inl ⟨by kernel_rfl, ?hyh8_3⟩) (by assumption) ?resth8_3
      case hyh8_3 => (intro w99 hSw; (try dsimp only at hSw); obtain ⟨hs1, hs2⟩ := hSw; (try go_simp); (try with_reducible rfl); (try omega))
      simp only [Act.put, List.setIfInBounds_toArray, List.set_cons_zero, List.set_cons_succ]
      refine wpAnyH_take (i := 3) (oi := ⟨some 86, _, _, _, _, _⟩) (v := ?vh8_4) rfl (by kernel_rfl) (by kernel_rfl) (by kernel_rfl) (fun _ _ _ h => h) (Or.inl ⟨by kernel_rfl, ?hyh8_4⟩) (by assumption) ?resth8_4
      case hyh8_4 => (intro w99 hSw; (try dsimp only at hSw); obtain ⟨hs1, hs2⟩ := hSw; (try go_simp); (try with_reducible rfl); (try omega))
      simp only [Act.put, List.setIfInBounds_toArray, List.set_cons_zero, List.set_cons_succ]
      refine wpAnyH_take (i := 4) (oi := ⟨some 87, _, _, _, _, _⟩) (v := ?vh8_5) rfl (by kernel_rfl) (by kernel_rfl) (by kernel_rfl) (fun _ _ _ h => h) (Or.inl ⟨by kernel_rfl, ?hyh8_5⟩) (by assumption) ?resth8_5
      case hyh8_5 => (intro w99 hSw; (try dsimp only at hSw); obtain ⟨hs1, hs2⟩ := hSw; (try go_simp); (try with_reducible rfl); (try omega))
      simp only [Act.put, List.setIfInBounds_toArray, List.set_cons_zero, List.set_cons_succ]
      refine wpAnyH_take (i := 6) (oi := ⟨some 89, _, _, _, _, _⟩) (v := ?vh8_6) rfl (by kernel_rfl) (by kernel_rfl) (by kernel_rfl) (fun _ _ _ h => h) (Or.inl ⟨by kernel_rfl, ?hyh8_6⟩) (by assumption) ?resth8_6
      case hyh8_6 => (intro w99 hSw; (try dsimp only at hSw); obtain ⟨hs1, hs2⟩ := hSw; (try go_simp); (try with_reducible rfl); (try omega))
      simp only [Act.put, List.setIfInBounds_toArray, List.set_cons_zero, List.set_cons_succ]
      refine wpAnyH_take (i := 11) (oi := ⟨some 94, _, _, _, _, _⟩) (v := ?vh8_7) rfl (by kernel_rfl) (by kernel_rfl) (by kernel_rfl) (fun _ _ _ h => h) (Or.inl ⟨by kernel_rfl, ?hyh8_7⟩) (by assumption) ?resth8_7
      case hyh8_7 => (intro w99 hSw; (try dsimp only at hSw); obtain ⟨hs1, hs2⟩ := hSw; (try go_simp); (try with_reducible rfl); (try omega))
      simp only [Act.put, List.setIfInBounds_toArray, List.set_cons_zero, List.set_cons_succ]
      refine wpAnyH_take (i := 13) (oi := ⟨some 96, _, _, _, _, _⟩) (v := ?vh8_8) rfl (by kernel_rfl) (by kernel_rfl) (by kernel_rfl) (fun _ _ _ h => h) (Or.inl ⟨by kernel_rfl, ?hyh8_8⟩) (by assumption) ?resth8_8
      case hyh8_8 => (intro w99 hSw; (try dsimp only at hSw); obtain ⟨hs1, hs2⟩ := hSw; (try go_simp); (try with_reducible rfl); (try omega))
      simp only [Act.put, List.setIfInBounds_toArray, List.set_cons_zero, List.set_cons_succ]
      refine wpAnyH_take (i := 14) (oi := ⟨some 97, _, _, _, _, _⟩) (v := ?vh8_9) rfl (by kernel_rfl) (by kernel_rfl) (by kernel_rfl) (fun _ _ _ h => h) (Or.inl ⟨by kernel_rfl, ?hyh8_9⟩) (by assumption) ?resth8_9
      case hyh8_9 => (intro w99 hSw; (try dsimp only at hSw); obtain ⟨hs1, hs2⟩ := hSw; (try go_simp); (try with_reducible rfl); (try omega))
      simp only [Act.put, List.setIfInBounds_toArray, List.set_cons_zero, List.set_cons_succ]
      refine wpAnyH_take (i := 15) (oi := ⟨some 98, _, _, _, _, _⟩) (v := ?vh8_10) rfl (by kernel_rfl) (by kernel_rfl) (by kernel_rfl) (fun _ _ _ h => h) (Or.inl ⟨by kernel_rfl, ?hyh8_10⟩) (by assumption) ?resth8_10
      case hyh8_10 => (intro w99 hSw; (try dsimp only at hSw); obtain ⟨hs1, hs2⟩ := hSw; (try go_simp); (try with_reducible rfl); (try omega))
      simp only [Act.put, List.setIfInBounds_toArray, List.set_cons_zero, List.set_cons_succ]
      refine wpAnyH_take (i := 17) (oi := ⟨some 100, _, _, _, _, _⟩) (v := ?vh8_11) rfl (by kernel_rfl) (by kernel_rfl) (by kernel_rfl) (fun _ _ _ h => h) (Or.inl ⟨by kernel_rfl, ?hyh8_11⟩) (by assumption) ?resth8_11
      case hyh8_11 => (intro w99 hSw; (try dsimp only at hSw); obtain ⟨hs1, hs2⟩ := hSw; (try go_simp); (try with_reducible rfl); (try omega))
      simp only [Act.put, List.setIfInBounds_toArray, List.set_cons_zero, List.set_cons_succ]
      refine wpAnyH_ready (rs := [5, 16]) (by kernel_rfl) (by simp) ?_
      refine AllReadyH.cons (o := ⟨some 88, _, _, _, _, _⟩) rfl (fun KQ hKQ => ?w5h8_12) (AllReadyH.cons (o := ⟨some 99, _, _, _, _, _⟩) rfl (fun KQ hKQ => ?w16h8_12) AllReadyH.nil)
      case w5h8_12 =>
        go_simp
        refine hKQ.out _ _ (⟨e0B, e1B⟩) (fun hHeld9 => ?_)
        clear hKQ KQ hHeld
        have hHeld := hHeld9
        clear hHeld9
        try simp only [Act.put, List.setIfInBounds_toArray, List.set_cons_zero, List.set_cons_succ]
        refine wpAnyH_take (i := 7) (oi := ⟨some 90, _, _, _, _, _⟩) (v := ?vh8_13) rfl (by kernel_rfl) (by kernel_rfl) (by kernel_rfl) (fun _ _ _ h => h) (Or.inl ⟨by kernel_rfl, ?hyh8_13⟩) (by assumption) ?resth8_13
        case hyh8_13 => (intro w99 hSw; (try dsimp only at hSw); obtain ⟨hs1, hs2⟩ := hSw; (try go_simp); (try with_reducible rfl); (try omega))
        simp only [Act.put, List.setIfInBounds_toArray, List.set_cons_zero, List.set_cons_succ]
        refine wpAnyH_take (i := 8) (oi := ⟨some 91, _, _, _, _, _⟩) (v := ?vh8_14) rfl (by kernel_rfl) (by kernel_rfl) (by kernel_rfl) (fun _ _ _ h => h) (Or.inl ⟨by kernel_rfl, ?hyh8_14⟩) (by assumption) ?resth8_14
        case hyh8_14 => (intro w99 hSw; (try dsimp only at hSw); obtain ⟨hs1, hs2⟩ := hSw; (try go_simp); (try with_reducible rfl); (try omega))
        simp only [Act.put, List.setIfInBounds_toArray, List.set_cons_zero, List.set_cons_succ]
        refine wpAnyH_take (i := 9) (oi := ⟨some 92, _, _, _, _, _⟩) (v := ?vh8_15) rfl (by kernel_rfl) (by kernel_rfl) (by kernel_rfl) (fun _ _ _ h => h) (Or.inl ⟨by kernel_rfl, ?hyh8_15⟩) (by assumption) ?resth8_15
        case hyh8_15 => (intro w99 hSw; (try dsimp only at hSw); obtain ⟨hs1, hs2⟩ := hSw; (try go_simp); (try with_reducible rfl); (try omega))
        simp only [Act.put, List.setIfInBounds_toArray, List.set_cons_zero, List.set_cons_succ]
        refine wpAnyH_ready (rs := [10, 16]) (by kernel_rfl) (by simp) ?_
        refine AllReadyH.cons (o := ⟨some 93, _, _, _, _, _⟩) rfl (fun KQ hKQ => ?w10h8_16) (AllReadyH.cons (o := ⟨some 99, _, _, _, _, _⟩) rfl (fun KQ hKQ => ?w16h8_16) AllReadyH.nil)
        case w10h8_16 =>
          refine step_byt (W := w3) (w0 := w3.drew) (v := .slice none 0 0) (l := []) rfl (.const (.slice none 0 0)) (.tmp 92) rfl (by first | (simp [Act.eval]; done) | (simp [Act.eval]; rfl) | rfl) (BtV.nil ((Kept.refl [] w3).drew)) (by first | (simp [Act.eval]; done) | (simp [Act.eval]; rfl) | rfl) (SRCB.out.kept ((Kept.refl [] w3).drew) (by simp)) SLB.out ?_
          intro A9 m9 c9 w9 h9 k9 r9
          have V9 := Lib.hid h9
          have K9 := Lib.hid (Kept.trans ((Kept.refl [] w3).drew) (show Kept [] w3.drew w9 from k9) (by simp))
          have hx9 := (BB.out.kept K9.out (by simp)).cell
          clear h9 k9 r9
          refine hKQ.out _ _ (⟨(K9.out.cell (p := ⟨g1, o1 + i * 2, none⟩) hg1B (by simp)).trans e0B, (K9.out.cell (p := ⟨g1, o1 + i * 2 + 1, none⟩) hg1B (by simp)).trans e1B⟩) (fun hHeld9 => ?_)
          clear hKQ KQ hHeld
          have hHeld := hHeld9
          clear hHeld9
          try simp only [Act.put, List.setIfInBounds_toArray, List.set_cons_zero, List.set_cons_succ]
          refine wpAnyH_ready (rs := [12, 16]) (by kernel_rfl) (by simp) ?_
          refine AllReadyH.cons (o := ⟨some 95, _, _, _, _, _⟩) rfl (fun KQ hKQ => ?w12h8_17) (AllReadyH.cons (o := ⟨some 99, _, _, _, _, _⟩) rfl (fun KQ hKQ => ?w16h8_17) AllReadyH.nil)
          case w12h8_17 =>
            refine step_byt (W := w3) (w0 := w9) (v := .slice A9 m9 c9) (l := [] ++ f.b) rfl (.tmp 93) (.tmp 94) rfl (by first | (simp [Act.eval]; done) | (simp [Act.eval]; rfl) | rfl) V9.out (by first | (simp [Act.eval]; done) | (simp [Act.eval]; rfl) | rfl) (RBB.out.kept K9.out (by simp)) SLC.out ?_
            intro A10 m10 c10 w10 h10 k10 r10
            have V10 := Lib.hid h10
            have K10 := Lib.hid (K9.out.trans k10 (fun q hm => .inr (r10 q hm)) : Kept [] w3 w10)
            have hx10 := (BB.out.kept K10.out (by simp)).cell
            clear h10 k10 r10
            refine hKQ.out _ _ (⟨(K10.out.cell (p := ⟨g1, o1 + i * 2, none⟩) hg1B (by simp)).trans e0B, (K10.out.cell (p := ⟨g1, o1 + i * 2 + 1, none⟩) hg1B (by simp)).trans e1B⟩) (fun hHeld9 => ?_)
            clear hKQ KQ hHeld
            have hHeld := hHeld9
            clear hHeld9
            try simp only [Act.put, List.setIfInBounds_toArray, List.set_cons_zero, List.set_cons_succ]
            refine wpAnyH_ready (rs := [16]) (by kernel_rfl) (by simp) ?_
            refine AllReadyH.cons (o := ⟨some 99, _, _, _, _, _⟩) rfl (fun KQ hKQ => ?w16h8_18) AllReadyH.nil
            case w16h8_18 =>
              go_simp
              refine hKQ.out _ _ (⟨(K10.out.cell (p := ⟨g1, o1 + i * 2, none⟩) hg1B (by simp)).trans e0B, (K10.out.cell (p := ⟨g1, o1 + i * 2 + 1, none⟩) hg1B (by simp)).trans e1B⟩) (fun hHeld9 => ?_)
              clear hKQ KQ hHeld
              have hHeld := hHeld9
              clear hHeld9
              try simp only [Act.put, List.setIfInBounds_toArray, List.set_cons_zero, List.set_cons_succ]
              refine wpAnyH_take (i := 18) (oi := ⟨some 101, _, _, _, _, _⟩) (v := ?vh8_19) rfl (by kernel_rfl) (by kernel_rfl) (by kernel_rfl) (fun _ _ _ h => h) (Or.inl ⟨by kernel_rfl, ?hyh8_19⟩) (by assumption) ?resth8_19
              case hyh8_19 => (intro w99 hSw; (try dsimp only at hSw); obtain ⟨hs1, hs2⟩ := hSw; (try go_simp); (try with_reducible rfl); (try omega))
              simp only [Act.put, List.setIfInBounds_toArray, List.set_cons_zero, List.set_cons_succ]
              refine wpAnyH_take (i := 19) (oi := ⟨some 102, _, _, _, _, _⟩) (v := ?vh8_20) rfl (by kernel_rfl) (by kernel_rfl) (by kernel_rfl) (fun _ _ _ h => h) (Or.inl ⟨by kernel_rfl, ?hyh8_20⟩) (by assumption) ?resth8_20
              case hyh8_20 => (intro w99 hSw; (try dsimp only at hSw); obtain ⟨hs1, hs2⟩ := hSw; (try go_simp); (try with_reducible rfl); (try omega))
              simp only [Act.put, List.setIfInBounds_toArray, List.set_cons_zero, List.set_cons_succ]
              refine wpAnyH_take (i := 20) (oi := ⟨some 103, _, _, _, _, _⟩) (v := ?vh8_21) rfl (by kernel_rfl) (by kernel_rfl) (by kernel_rfl) (fun _ _ _ h => h) (Or.inl ⟨by kernel_rfl, ?hyh8_21⟩) (by assumption) ?resth8_21
              case hyh8_21 => (intro w99 hSw; (try dsimp only at hSw); obtain ⟨hs1, hs2⟩ := hSw; (try go_simp); (try with_reducible rfl); (try omega))
              simp only [Act.put, List.setIfInBounds_toArray, List.set_cons_zero, List.set_cons_succ]
              refine wpAnyH_take (i := 21) (oi := ⟨some 104, _, _, _, _, _⟩) (v := ?vh8_22) rfl (by kernel_rfl) (by kernel_rfl) (by kernel_rfl) (fun _ _ _ h => h) (Or.inl ⟨by kernel_rfl, ?hyh8_22⟩) (by assumption) ?resth8_22
              case hyh8_22 => (intro w99 hSw; (try dsimp only at hSw); obtain ⟨hs1, hs2⟩ := hSw; (try go_simp); (try with_reducible rfl); (try omega))
              simp only [Act.put, List.setIfInBounds_toArray, List.set_cons_zero, List.set_cons_succ]
              refine wpAnyH_ready (rs := [22]) (by kernel_rfl) (by simp) ?_
              refine AllReadyH.cons (o := ⟨some 105, _, _, _, _, _⟩) rfl (fun KQ hKQ => ?w22h8_23) AllReadyH.nil
              case w22h8_23 =>
                go_simp
                go_at_call 66
                have hz := rput_any (XB.out.go K10.out) HILB.out (s := v.sure) V10.out.rd (fun hm => by have h1 := V10.out.new _ hm; have h2 := XB.out.blk.lt; omega) (fun q hm => V10.out.own.lt q hm) (by have := NFB.out; omega)
                with_reducible refine hz.mono ?_
                clear hz
                rintro e w11 ⟨rfl, h11⟩
                have K11 := Lib.hid (show Kept [p] w10 w11 from by obtain ⟨_, _, _, _, _, _, _, _, _, _, _, hk, _⟩ := h11; exact hk)
                have T11 := Lib.hid (RkTo.from (H := H) h11 (KB.out.trans K10.out (by simp)) (fun q hm => (List.mem_append.1 hm).elim (HHB.out q) (fun h => .inr (Nat.le_trans KB.out.size (V10.out.new _ h)))))
                clear h11
                go_wp2_with fail
                refine hKQ.out _ _ (⟨(K11.out.cell (p := ⟨g1, o1 + i * 2, none⟩) (Nat.lt_of_lt_of_le hg1B K10.out.size) (fun hm => XB.out.hd _ hgHB.out hm)).trans ((K10.out.cell (p := ⟨g1, o1 + i * 2, none⟩) hg1B (by simp)).trans e0B), (K11.out.cell (p := ⟨g1, o1 + i * 2 + 1, none⟩) (Nat.lt_of_lt_of_le hg1B K10.out.size) (fun hm => XB.out.hd _ hgHB.out hm)).trans ((K10.out.cell (p := ⟨g1, o1 + i * 2 + 1, none⟩) hg1B (by simp)).trans e1B)⟩) (fun hHeld9 => ?_)
                clear hKQ KQ hHeld
                have hHeld := hHeld9
                clear hHeld9
                try simp only [Act.put, List.setIfInBounds_toArray, List.set_cons_zero, List.set_cons_succ]
                refine wpAnyH_done (by kernel_rfl) ?_ _
                clear hHeld
                go_wp2
                go_ret
                refine ⟨by rw [HRC.out]; rfl, ?_⟩
                rw [HRC.out, hFB.out, ← VSU.out]
                exact T11.out
          case w16h8_17 =>
            go_simp
            refine hKQ.out _ _ (⟨(K9.out.cell (p := ⟨g1, o1 + i * 2, none⟩) hg1B (by simp)).trans e0B, (K9.out.cell (p := ⟨g1, o1 + i * 2 + 1, none⟩) hg1B (by simp)).trans e1B⟩) (fun hHeld9 => ?_)
            clear hKQ KQ hHeld
            have hHeld := hHeld9
            clear hHeld9
            try simp only [Act.put, List.setIfInBounds_toArray, List.set_cons_zero, List.set_cons_succ]
            refine wpAnyH_take (i := 18) (oi := ⟨some 101, _, _, _, _, _⟩) (v := ?vh8_24) rfl (by kernel_rfl) (by kernel_rfl) (by kernel_rfl) (fun _ _ _ h => h) (Or.inl ⟨by kernel_rfl, ?hyh8_24⟩) (by assumption) ?resth8_24
            case hyh8_24 => (intro w99 hSw; (try dsimp only at hSw); obtain ⟨hs1, hs2⟩ := hSw; (try go_simp); (try with_reducible rfl); (try omega))
            simp only [Act.put, List.setIfInBounds_toArray, List.set_cons_zero, List.set_cons_succ]
            refine wpAnyH_take (i := 19) (oi := ⟨some 102, _, _, _, _, _⟩) (v := ?vh8_25) rfl (by kernel_rfl) (by kernel_rfl) (by kernel_rfl) (fun _ _ _ h => h) (Or.inl ⟨by kernel_rfl, ?hyh8_25⟩) (by assumption) ?resth8_25
            case hyh8_25 => (intro w99 hSw; (try dsimp only at hSw); obtain ⟨hs1, hs2⟩ := hSw; (try go_simp); (try with_reducible rfl); (try omega))
            simp only [Act.put, List.setIfInBounds_toArray, List.set_cons_zero, List.set_cons_succ]
            refine wpAnyH_take (i := 20) (oi := ⟨some 103, _, _, _, _, _⟩) (v := ?vh8_26) rfl (by kernel_rfl) (by kernel_rfl) (by kernel_rfl) (fun _ _ _ h => h) (Or.inl ⟨by kernel_rfl, ?hyh8_26⟩) (by assumption) ?resth8_26
            case hyh8_26 => (intro w99 hSw; (try dsimp only at hSw); obtain ⟨hs1, hs2⟩ := hSw; (try go_simp); (try with_reducible rfl); (try omega))
            simp only [Act.put, List.setIfInBounds_toArray, List.set_cons_zero, List.set_cons_succ]
            refine wpAnyH_ready (rs := [12]) (by kernel_rfl) (by simp) ?_
            refine AllReadyH.cons (o := ⟨some 95, _, _, _, _, _⟩) rfl (fun KQ hKQ => ?w12h8_27) AllReadyH.nil
            case w12h8_27 =>
              refine step_byt (W := w3) (w0 := w9) (v := .slice A9 m9 c9) (l := [] ++ f.b) rfl (.tmp 93) (.tmp 94) rfl (by first | (simp [Act.eval]; done) | (simp [Act.eval]; rfl) | rfl) V9.out (by first | (simp [Act.eval]; done) | (simp [Act.eval]; rfl) | rfl) (RBB.out.kept K9.out (by simp)) SLC.out ?_
              intro A10 m10 c10 w10 h10 k10 r10
              have V10 := Lib.hid h10
              have K10 := Lib.hid (K9.out.trans k10 (fun q hm => .inr (r10 q hm)) : Kept [] w3 w10)
              have hx10 := (BB.out.kept K10.out (by simp)).cell
              clear h10 k10 r10
              refine hKQ.out _ _ (⟨(K10.out.cell (p := ⟨g1, o1 + i * 2, none⟩) hg1B (by simp)).trans e0B, (K10.out.cell (p := ⟨g1, o1 + i * 2 + 1, none⟩) hg1B (by simp)).trans e1B⟩) (fun hHeld9 => ?_)
              clear hKQ KQ hHeld
              have hHeld := hHeld9
              clear hHeld9
              try simp only [Act.put, List.setIfInBounds_toArray, List.set_cons_zero, List.set_cons_succ]
              refine wpAnyH_take (i := 21) (oi := ⟨some 104, _, _, _, _, _⟩) (v := ?vh8_28) rfl (by kernel_rfl) (by kernel_rfl) (by kernel_rfl) (fun _ _ _ h => h) (Or.inl ⟨by kernel_rfl, ?hyh8_28⟩) (by assumption) ?resth8_28
              case hyh8_28 => (intro w99 hSw; (try dsimp only at hSw); obtain ⟨hs1, hs2⟩ := hSw; (try go_simp); (try with_reducible rfl); (try omega))
              simp only [Act.put, List.setIfInBounds_toArray, List.set_cons_zero, List.set_cons_succ]
              refine wpAnyH_ready (rs := [22]) (by kernel_rfl) (by simp) ?_
              refine AllReadyH.cons (o := ⟨some 105, _, _, _, _, _⟩) rfl (fun KQ hKQ => ?w22h8_29) AllReadyH.nil
              case w22h8_29 =>
                go_simp
                go_at_call 66
                have hz := rput_any (XB.out.go K10.out) HILB.out (s := v.sure) V10.out.rd (fun hm => by have h1 := V10.out.new _ hm; have h2 := XB.out.blk.lt; omega) (fun q hm => V10.out.own.lt q hm) (by have := NFB.out; omega)
                with_reducible refine hz.mono ?_
                clear hz
                rintro e w11 ⟨rfl, h11⟩
                have K11 := Lib.hid (show Kept [p] w10 w11 from by obtain ⟨_, _, _, _, _, _, _, _, _, _, _, hk, _⟩ := h11; exact hk)
                have T11 := Lib.hid (RkTo.from (H := H) h11 (KB.out.trans K10.out (by simp)) (fun q hm => (List.mem_append.1 hm).elim (HHB.out q) (fun h => .inr (Nat.le_trans KB.out.size (V10.out.new _ h)))))
                clear h11
                go_wp2_with fail
                refine hKQ.out _ _ (⟨(K11.out.cell (p := ⟨g1, o1 + i * 2, none⟩) (Nat.lt_of_lt_of_le hg1B K10.out.size) (fun hm => XB.out.hd _ hgHB.out hm)).trans ((K10.out.cell (p := ⟨g1, o1 + i * 2, none⟩) hg1B (by simp)).trans e0B), (K11.out.cell (p := ⟨g1, o1 + i * 2 + 1, none⟩) (Nat.lt_of_lt_of_le hg1B K10.out.size) (fun hm => XB.out.hd _ hgHB.out hm)).trans ((K10.out.cell (p := ⟨g1, o1 + i * 2 + 1, none⟩) hg1B (by simp)).trans e1B)⟩) (fun hHeld9 => ?_)
                clear hKQ KQ hHeld
                have hHeld := hHeld9
                clear hHeld9
                try simp only [Act.put, List.setIfInBounds_toArray, List.set_cons_zero, List.set_cons_succ]
                refine wpAnyH_done (by kernel_rfl) ?_ _
                clear hHeld
                go_wp2
                go_ret
                refine ⟨by rw [HRC.out]; rfl, ?_⟩
                rw [HRC.out, hFB.out, ← VSU.out]
                exact T11.out
        case w16h8_16 =>
          go_simp
          refine hKQ.out _ _ (⟨e0B, e1B⟩) (fun hHeld9 => ?_)
          clear hKQ KQ hHeld
          have hHeld := hHeld9
          clear hHeld9
          try simp only [Act.put, List.setIfInBounds_toArray, List.set_cons_zero, List.set_cons_succ]
          refine wpAnyH_take (i := 18) (oi := ⟨some 101, _, _, _, _, _⟩) (v := ?vh8_30) rfl (by kernel_rfl) (by kernel_rfl) (by kernel_rfl) (fun _ _ _ h => h) (Or.inl ⟨by kernel_rfl, ?hyh8_30⟩) (by assumption) ?resth8_30
          case hyh8_30 => (intro w99 hSw; (try dsimp only at hSw); obtain ⟨hs1, hs2⟩ := hSw; (try go_simp); (try with_reducible rfl); (try omega))
          simp only [Act.put, List.setIfInBounds_toArray, List.set_cons_zero, List.set_cons_succ]
          refine wpAnyH_take (i := 19) (oi := ⟨some 102, _, _, _, _, _⟩) (v := ?vh8_31) rfl (by kernel_rfl) (by kernel_rfl) (by kernel_rfl) (fun _ _ _ h => h) (Or.inl ⟨by kernel_rfl, ?hyh8_31⟩) (by assumption) ?resth8_31
          case hyh8_31 => (intro w99 hSw; (try dsimp only at hSw); obtain ⟨hs1, hs2⟩ := hSw; (try go_simp); (try with_reducible rfl); (try omega))
          simp only [Act.put, List.setIfInBounds_toArray, List.set_cons_zero, List.set_cons_succ]
          refine wpAnyH_take (i := 20) (oi := ⟨some 103, _, _, _, _, _⟩) (v := ?vh8_32) rfl (by kernel_rfl) (by kernel_rfl) (by kernel_rfl) (fun _ _ _ h => h) (Or.inl ⟨by kernel_rfl, ?hyh8_32⟩) (by assumption) ?resth8_32
          case hyh8_32 => (intro w99 hSw; (try dsimp only at hSw); obtain ⟨hs1, hs2⟩ := hSw; (try go_simp); (try with_reducible rfl); (try omega))
          simp only [Act.put, List.setIfInBounds_toArray, List.set_cons_zero, List.set_cons_succ]
          refine wpAnyH_ready (rs := [10]) (by kernel_rfl) (by simp) ?_
          refine AllReadyH.cons (o := ⟨some 93, _, _, _, _, _⟩) rfl (fun KQ hKQ => ?w10h8_33) AllReadyH.nil
          case w10h8_33 =>
            refine step_byt (W := w3) (w0 := w3.drew) (v := .slice none 0 0) (l := []) rfl (.const (.slice none 0 0)) (.tmp 92) rfl (by first | (simp [Act.eval]; done) | (simp [Act.eval]; rfl) | rfl) (BtV.nil ((Kept.refl [] w3).drew)) (by first | (simp [Act.eval]; done) | (simp [Act.eval]; rfl) | rfl) (SRCB.out.kept ((Kept.refl [] w3).drew) (by simp)) SLB.out ?_
            intro A9 m9 c9 w9 h9 k9 r9
            have V9 := Lib.hid h9
            have K9 := Lib.hid (Kept.trans ((Kept.refl [] w3).drew) (show Kept [] w3.drew w9 from k9) (by simp))
            have hx9 := (BB.out.kept K9.out (by simp)).cell
            clear h9 k9 r9
            refine hKQ.out _ _ (⟨(K9.out.cell (p := ⟨g1, o1 + i * 2, none⟩) hg1B (by simp)).trans e0B, (K9.out.cell (p := ⟨g1, o1 + i * 2 + 1, none⟩) hg1B (by simp)).trans e1B⟩) (fun hHeld9 => ?_)
            clear hKQ KQ hHeld
            have hHeld := hHeld9
            clear hHeld9
            try simp only [Act.put, List.setIfInBounds_toArray, List.set_cons_zero, List.set_cons_succ]
            refine wpAnyH_ready (rs := [12]) (by kernel_rfl) (by simp) ?_
            refine AllReadyH.cons (o := ⟨some 95, _, _, _, _, _⟩) rfl (fun KQ hKQ => ?w12h8_34) AllReadyH.nil
            case w12h8_34 =>
              refine step_byt (W := w3) (w0 := w9) (v := .slice A9 m9 c9) (l := [] ++ f.b) rfl (.tmp 93) (.tmp 94) rfl (by first | (simp [Act.eval]; done) | (simp [Act.eval]; rfl) | rfl) V9.out (by first | (simp [Act.eval]; done) | (simp [Act.eval]; rfl) | rfl) (RBB.out.kept K9.out (by simp)) SLC.out ?_
              intro A10 m10 c10 w10 h10 k10 r10
              have V10 := Lib.hid h10
              have K10 := Lib.hid (K9.out.trans k10 (fun q hm => .inr (r10 q hm)) : Kept [] w3 w10)
              have hx10 := (BB.out.kept K10.out (by simp)).cell
              clear h10 k10 r10
              refine hKQ.out _ _ (⟨(K10.out.cell (p := ⟨g1, o1 + i * 2, none⟩) hg1B (by simp)).trans e0B, (K10.out.cell (p := ⟨g1, o1 + i * 2 + 1, none⟩) hg1B (by simp)).trans e1B⟩) (fun hHeld9 => ?_)
              clear hKQ KQ hHeld
              have hHeld := hHeld9
              clear hHeld9
              try simp only [Act.put, List.setIfInBounds_toArray, List.set_cons_zero, List.set_cons_succ]
              refine wpAnyH_take (i := 21) (oi := ⟨some 104, _, _, _, _, _⟩) (v := ?vh8_35) rfl (by kernel_rfl) (by kernel_rfl) (by kernel_rfl) (fun _ _ _ h => h) (Or.inl ⟨by kernel_rfl, ?hyh8_35⟩) (by assumption) ?resth8_35
              case hyh8_35 => (intro w99 hSw; (try dsimp only at hSw); obtain ⟨hs1, hs2⟩ := hSw; (try go_simp); (try with_reducible rfl); (try omega))
              simp only [Act.put, List.setIfInBounds_toArray, List.set_cons_zero, List.set_cons_succ]
              refine wpAnyH_ready (rs := [22]) (by kernel_rfl) (by simp) ?_
              refine AllReadyH.cons (o := ⟨some 105, _, _, _, _, _⟩) rfl (fun KQ hKQ => ?w22h8_36) AllReadyH.nil
              case w22h8_36 =>
                go_simp
                go_at_call 66
                have hz := rput_any (XB.out.go K10.out) HILB.out (s := v.sure) V10.out.rd (fun hm => by have h1 := V10.out.new _ hm; have h2 := XB.out.blk.lt; omega) (fun q hm => V10.out.own.lt q hm) (by have := NFB.out; omega)
                with_reducible refine hz.mono ?_
                clear hz
                rintro e w11 ⟨rfl, h11⟩
                have K11 := Lib.hid (show Kept [p] w10 w11 from by obtain ⟨_, _, _, _, _, _, _, _, _, _, _, hk, _⟩ := h11; exact hk)
                have T11 := Lib.hid (RkTo.from (H := H) h11 (KB.out.trans K10.out (by simp)) (fun q hm => (List.mem_append.1 hm).elim (HHB.out q) (fun h => .inr (Nat.le_trans KB.out.size (V10.out.new _ h)))))
                clear h11
                go_wp2_with fail
                refine hKQ.out _ _ (⟨(K11.out.cell (p := ⟨g1, o1 + i * 2, none⟩) (Nat.lt_of_lt_of_le hg1B K10.out.size) (fun hm => XB.out.hd _ hgHB.out hm)).trans ((K10.out.cell (p := ⟨g1, o1 + i * 2, none⟩) hg1B (by simp)).trans e0B), (K11.out.cell (p := ⟨g1, o1 + i * 2 + 1, none⟩) (Nat.lt_of_lt_of_le hg1B K10.out.size) (fun hm => XB.out.hd _ hgHB.out hm)).trans ((K10.out.cell (p := ⟨g1, o1 + i * 2 + 1, none⟩) hg1B (by simp)).trans e1B)⟩) (fun hHeld9 => ?_)
                clear hKQ KQ hHeld
                have hHeld := hHeld9
                clear hHeld9
                try simp only [Act.put, List.setIfInBounds_toArray, List.set_cons_zero, List.set_cons_succ]
                refine wpAnyH_done (by kernel_rfl) ?_ _
                clear hHeld
                go_wp2
                go_ret
                refine ⟨by rw [HRC.out]; rfl, ?_⟩
                rw [HRC.out, hFB.out, ← VSU.out]
                exact T11.out
      case w16h8_12 =>
        go_simp
        refine hKQ.out _ _ (⟨e0B, e1B⟩) (fun hHeld9 => ?_)
        clear hKQ KQ hHeld
        have hHeld := hHeld9
        clear hHeld9
        try simp only [Act.put, List.setIfInBounds_toArray, List.set_cons_zero, List.set_cons_succ]
        refine wpAnyH_take (i := 18) (oi := ⟨some 101, _, _, _, _, _⟩) (v := ?vh8_37) rfl (by kernel_rfl) (by kernel_rfl) (by kernel_rfl) (fun _ _ _ h => h) (Or.inl ⟨by kernel_rfl, ?hyh8_37⟩) (by assumption) ?resth8_37
        case hyh8_37 => (intro w99 hSw; (try dsimp only at hSw); obtain ⟨hs1, hs2⟩ := hSw; (try go_simp); (try with_reducible rfl); (try omega))
        simp only [Act.put, List.setIfInBounds_toArray, List.set_cons_zero, List.set_cons_succ]
        refine wpAnyH_take (i := 19) (oi := ⟨some 102, _, _, _, _, _⟩) (v := ?vh8_38) rfl (by kernel_rfl) (by kernel_rfl) (by kernel_rfl) (fun _ _ _ h => h) (Or.inl ⟨by kernel_rfl, ?hyh8_38⟩) (by assumption) ?resth8_38
        case hyh8_38 => (intro w99 hSw; (try dsimp only at hSw); obtain ⟨hs1, hs2⟩ := hSw; (try go_simp); (try with_reducible rfl); (try omega))
        simp only [Act.put, List.setIfInBounds_toArray, List.set_cons_zero, List.set_cons_succ]
        refine wpAnyH_take (i := 20) (oi := ⟨some 103, _, _, _, _, _⟩) (v := ?vh8_39) rfl (by kernel_rfl) (by kernel_rfl) (by kernel_rfl) (fun _ _ _ h => h) (Or.inl ⟨by kernel_rfl, ?hyh8_39⟩) (by assumption) ?resth8_39
        case hyh8_39 => (intro w99 hSw; (try dsimp only at hSw); obtain ⟨hs1, hs2⟩ := hSw; (try go_simp); (try with_reducible rfl); (try omega))
        simp only [Act.put, List.setIfInBounds_toArray, List.set_cons_zero, List.set_cons_succ]
        refine wpAnyH_ready (rs := [5]) (by kernel_rfl) (by simp) ?_
        refine AllReadyH.cons (o := ⟨some 88, _, _, _, _, _⟩) rfl (fun KQ hKQ => ?w5h8_40) AllReadyH.nil
        case w5h8_40 =>
          go_simp
          refine hKQ.out _ _ (⟨e0B, e1B⟩) (fun hHeld9 => ?_)
          clear hKQ KQ hHeld
          have hHeld := hHeld9
          clear hHeld9
          try simp only [Act.put, List.setIfInBounds_toArray, List.set_cons_zero, List.set_cons_succ]
          refine wpAnyH_take (i := 7) (oi := ⟨some 90, _, _, _, _, _⟩) (v := ?vh8_41) rfl (by kernel_rfl) (by kernel_rfl) (by kernel_rfl) (fun _ _ _ h => h) (Or.inl ⟨by kernel_rfl, ?hyh8_41⟩) (by assumption) ?resth8_41
          case hyh8_41 => (intro w99 hSw; (try dsimp only at hSw); obtain ⟨hs1, hs2⟩ := hSw; (try go_simp); (try with_reducible rfl); (try omega))
          simp only [Act.put, List.setIfInBounds_toArray, List.set_cons_zero, List.set_cons_succ]
          refine wpAnyH_take (i := 8) (oi := ⟨some 91, _, _, _, _, _⟩) (v := ?vh8_42) rfl (by kernel_rfl) (by kernel_rfl) (by kernel_rfl) (fun _ _ _ h => h) (Or.inl ⟨by kernel_rfl, ?hyh8_42⟩) (by assumption) ?resth8_42
          case hyh8_42 => (intro w99 hSw; (try dsimp only at hSw); obtain ⟨hs1, hs2⟩ := hSw; (try go_simp); (try with_reducible rfl); (try omega))
          simp only [Act.put, List.setIfInBounds_toArray, List.set_cons_zero, List.set_cons_succ]
          refine wpAnyH_take (i := 9) (oi := ⟨some 92, _, _, _, _, _⟩) (v := ?vh8_43) rfl (by kernel_rfl) (by kernel_rfl) (by kernel_rfl) (fun _ _ _ h => h) (Or.inl ⟨by kernel_rfl, ?hyh8_43⟩) (by assumption) ?resth8_43
          case hyh8_43 => (intro w99 hSw; (try dsimp only at hSw); obtain ⟨hs1, hs2⟩ := hSw; (try go_simp); (try with_reducible rfl); (try omega))
          simp only [Act.put, List.setIfInBounds_toArray, List.set_cons_zero, List.set_cons_succ]
          refine wpAnyH_ready (rs := [10]) (by kernel_rfl) (by simp) ?_
          refine AllReadyH.cons (o := ⟨some 93, _, _, _, _, _⟩) rfl (fun KQ hKQ => ?w10h8_44) AllReadyH.nil
          case w10h8_44 =>
            refine step_byt (W := w3) (w0 := w3.drew) (v := .slice none 0 0) (l := []) rfl (.const (.slice none 0 0)) (.tmp 92) rfl (by first | (simp [Act.eval]; done) | (simp [Act.eval]; rfl) | rfl) (BtV.nil ((Kept.refl [] w3).drew)) (by first | (simp [Act.eval]; done) | (simp [Act.eval]; rfl) | rfl) (SRCB.out.kept ((Kept.refl [] w3).drew) (by simp)) SLB.out ?_
            intro A9 m9 c9 w9 h9 k9 r9
            have V9 := Lib.hid h9
            have K9 := Lib.hid (Kept.trans ((Kept.refl [] w3).drew) (show Kept [] w3.drew w9 from k9) (by simp))
            have hx9 := (BB.out.kept K9.out (by simp)).cell
            clear h9 k9 r9
            refine hKQ.out _ _ (⟨(K9.out.cell (p := ⟨g1, o1 + i * 2, none⟩) hg1B (by simp)).trans e0B, (K9.out.cell (p := ⟨g1, o1 + i * 2 + 1, none⟩) hg1B (by simp)).trans e1B⟩) (fun hHeld9 => ?_)
            clear hKQ KQ hHeld
            have hHeld := hHeld9
            clear hHeld9
            try simp only [Act.put, List.setIfInBounds_toArray, List.set_cons_zero, List.set_cons_succ]
            refine wpAnyH_ready (rs := [12]) (by kernel_rfl) (by simp) ?_
            refine AllReadyH.cons (o := ⟨some 95, _, _, _, _, _⟩) rfl (fun KQ hKQ => ?w12h8_45) AllReadyH.nil
            case w12h8_45 =>
              refine step_byt (W := w3) (w0 := w9) (v := .slice A9 m9 c9) (l := [] ++ f.b) rfl (.tmp 93) (.tmp 94) rfl (by first | (simp [Act.eval]; done) | (simp [Act.eval]; rfl) | rfl) V9.out (by first | (simp [Act.eval]; done) | (simp [Act.eval]; rfl) | rfl) (RBB.out.kept K9.out (by simp)) SLC.out ?_
              intro A10 m10 c10 w10 h10 k10 r10
              have V10 := Lib.hid h10
              have K10 := Lib.hid (K9.out.trans k10 (fun q hm => .inr (r10 q hm)) : Kept [] w3 w10)
              have hx10 := (BB.out.kept K10.out (by simp)).cell
              clear h10 k10 r10
              refine hKQ.out _ _ (⟨(K10.out.cell (p := ⟨g1, o1 + i * 2, none⟩) hg1B (by simp)).trans e0B, (K10.out.cell (p := ⟨g1, o1 + i * 2 + 1, none⟩) hg1B (by simp)).trans e1B⟩) (fun hHeld9 => ?_)
              clear hKQ KQ hHeld
              have hHeld := hHeld9
              clear hHeld9
              try simp only [Act.put, List.setIfInBounds_toArray, List.set_cons_zero, List.set_cons_succ]
              refine wpAnyH_take (i := 21) (oi := ⟨some 104, _, _, _, _, _⟩) (v := ?vh8_46) rfl (by kernel_rfl) (by kernel_rfl) (by kernel_rfl) (fun _ _ _ h => h) (Or.inl ⟨by kernel_rfl, ?hyh8_46⟩) (by assumption) ?resth8_46
              case hyh8_46 => (intro w99 hSw; (try dsimp only at hSw); obtain ⟨hs1, hs2⟩ := hSw; (try go_simp); (try with_reducible rfl); (try omega))
              simp only [Act.put, List.setIfInBounds_toArray, List.set_cons_zero, List.set_cons_succ]
              refine wpAnyH_ready (rs := [22]) (by kernel_rfl) (by simp) ?_
              refine AllReadyH.cons (o := ⟨some 105, _, _, _, _, _⟩) rfl (fun KQ hKQ => ?w22h8_47) AllReadyH.nil
              case w22h8_47 =>
                go_simp
                go_at_call 66
                have hz := rput_any (XB.out.go K10.out) HILB.out (s := v.sure) V10.out.rd (fun hm => by have h1 := V10.out.new _ hm; have h2 := XB.out.blk.lt; omega) (fun q hm => V10.out.own.lt q hm) (by have := NFB.out; omega)
                with_reducible refine hz.mono ?_
                clear hz
                rintro e w11 ⟨rfl, h11⟩
                have K11 := Lib.hid (show Kept [p] w10 w11 from by obtain ⟨_, _, _, _, _, _, _, _, _, _, _, hk, _⟩ := h11; exact hk)
                have T11 := Lib.hid (RkTo.from (H := H) h11 (KB.out.trans K10.out (by simp)) (fun q hm => (List.mem_append.1 hm).elim (HHB.out q) (fun h => .inr (Nat.le_trans KB.out.size (V10.out.new _ h)))))
                clear h11
                go_wp2_with fail
                refine hKQ.out _ _ (⟨(K11.out.cell (p := ⟨g1, o1 + i * 2, none⟩) (Nat.lt_of_lt_of_le hg1B K10.out.size) (fun hm => XB.out.hd _ hgHB.out hm)).trans ((K10.out.cell (p := ⟨g1, o1 + i * 2, none⟩) hg1B (by simp)).trans e0B), (K11.out.cell (p := ⟨g1, o1 + i * 2 + 1, none⟩) (Nat.lt_of_lt_of_le hg1B K10.out.size) (fun hm => XB.out.hd _ hgHB.out hm)).trans ((K10.out.cell (p := ⟨g1, o1 + i * 2 + 1, none⟩) hg1B (by simp)).trans e1B)⟩) (fun hHeld9 => ?_)
                clear hKQ KQ hHeld
                have hHeld := hHeld9
                clear hHeld9
                try simp only [Act.put, List.setIfInBounds_toArray, List.set_cons_zero, List.set_cons_succ]
                refine wpAnyH_done (by kernel_rfl) ?_ _
                clear hHeld
                go_wp2
                go_ret
                refine ⟨by rw [HRC.out]; rfl, ?_⟩
                rw [HRC.out, hFB.out, ← VSU.out]
                exact T11.out
end
end Go.Proofs.Ythdjdfdefibepaa
