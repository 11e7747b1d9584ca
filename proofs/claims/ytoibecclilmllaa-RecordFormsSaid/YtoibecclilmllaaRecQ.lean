
/-
  The contract of r4.MayRecord.
-/
import Derived.Test.YtoibecclilmllaaRecC
import Derived.Deep.RegionWith
import Derived.Deep.DeepCutAuto
namespace Go.Proofs.Ytoibecclilmllaa
open Go.RowKit Go.ChangeShapes Go.WideShapes Go.Deep
set_option linter.unusedVariables false

/-- a record in its block, its row made since w -/
def OneRec (w w9 : World) (p : RecD) : Prop := ∃ A1 d1, Blk w9 w.heap.size 29 #[.int .i64 p.kind, .int .u32 (p.tup.src.toNat : Nat), .int .u32 (p.tup.dst.toNat : Nat), .int .i64 p.tup.proto, .int .i64 p.tup.sport, .int .i64 p.tup.dport, .int .i64 p.fb, .int .i64 p.fg, .int .i64 p.fs, .int .i64 p.gen, .slice A1 p.backs.length d1, .int .i64 p.back, .int .i64 p.until_, .int .i64 p.count] ∧ BkV w w9 (.slice A1 p.backs.length d1) p.backs
theorem one_put {w : World} {g : Nat} {t : TypeId} {cs : Array Value} (hg : Blk w g t cs) (vs : List Value) (hs : cs.size = vs.length) : Blk (w.setCells g 0 vs) g t vs.toArray ∧ Kept [g] w (w.setCells g 0 vs) := by
  have k1 := Kept.setCells (g := g) vs 0 w w (Kept.refl _ _)
  have b1 := hg.whole vs.toArray (by simpa using hs)
  simp only at b1
  exact ⟨b1, k1⟩
/-- the rest of May, behind the tuple and the number of backends -/
def restQ (p : RecD) : Bool := inB p.fb 65535 && (inB p.fg 1000000 && (timeB p.fs && (inB p.gen 1000000 && (inB p.back 65535 && (timeB p.until_ && inB p.count 1000000)))))
def mayP (p : RecD) : Bool := if ((p.kind = 1 ∨ p.kind = 2) ∧ mayT p.tup = false) ∨ 16 < p.backs.length then false else p.backs.all mayB && restQ p
theorem mayR_P (r : RecD) (h1 : ¬ r.kind < 1) (h6 : ¬ 6 < r.kind) : mayR r = mayP (plainR r) := by
  rw [← mayQ_eq, mayQ, mayP, plain_kind, restQ]
  simp [h1, h6]

def badQ (p : RecD) (n : Nat) : Bool := ((p.kind == 1 || p.kind == 2) && !mayT p.tup) || decide (16 < n)

theorem mayP_bad {p : RecD} {n : Nat} (hn : p.backs.length = n) (h : badQ p n = true) : mayP p = false := by
  subst hn
  simp only [badQ, Bool.or_eq_true, Bool.and_eq_true, beq_iff_eq, Bool.not_eq_true', decide_eq_true_eq] at h
  rw [mayP, if_pos h]
theorem mayP_ok {p : RecD} {n : Nat} (hn : p.backs.length = n) (h : badQ p n = false) : mayP p = (p.backs.all mayB && restQ p) ∧ n ≤ 16 := by
  subst hn
  have h' : ¬ (((p.kind = 1 ∨ p.kind = 2) ∧ mayT p.tup = false) ∨ 16 < p.backs.length) := by
    intro h2
    have : badQ p p.backs.length = true := by
      simp only [badQ, Bool.or_eq_true, Bool.and_eq_true, beq_iff_eq, Bool.not_eq_true', decide_eq_true_eq]
      exact h2
    rw [h] at this; cases this
  rw [mayP, if_neg h']
  exact ⟨rfl, by omega⟩
set_option maxHeartbeats 6400000 in
theorem rMay_any (w : World) {G : List Nat} {A : Option Addr} {m c : Nat} (r : RecD) (h : SmallB w G A m c r.backs) :
    Calls Try.prog 10 #[.agg #[.int .i64 r.kind, .int .u32 (r.tup.src.toNat : Nat), .int .u32 (r.tup.dst.toNat : Nat), .int .i64 r.tup.proto, .int .i64 r.tup.sport, .int .i64 r.tup.dport, .int .i64 r.fb, .int .i64 r.fg, .int .i64 r.fs, .int .i64 r.gen, .slice A m c, .int .i64 r.back, .int .i64 r.until_, .int .i64 r.count]] w fun e w' => e = .returned (.bool (mayR r)) ∧ Kept [] w w' := by
  have H := Lib.hid h
  clear h
  by_cases kl : r.kind < 1
  · have hp := Lib.hid (show mayR r = false by rw [← mayQ_eq]; simp [mayQ, kl])
    go_enter Try.func10, Try.ntmps10
    go_wp2
    go_ret
    exact ⟨ret_bool (by rw [hp.out]), by (repeat (first | exact Kept.refl _ _ | apply Kept.alloc | apply Kept.drew))⟩
  by_cases kh : 6 < r.kind
  · have hp := Lib.hid (show mayR r = false by rw [← mayQ_eq]; simp [mayQ, kh])
    go_enter Try.func10, Try.ntmps10
    go_wp2
    go_ret
    exact ⟨ret_bool (by rw [hp.out]), by (repeat (first | exact Kept.refl _ _ | apply Kept.alloc | apply Kept.drew))⟩
  have hres := Lib.hid (mayR_P r kl kh)
  go_enter Try.func10, Try.ntmps10
  go_upto_region 3 with fail
  go_cut [] (fun wx => OneRec w wx (plainR r))
  case first =>
    have hk0 : Kept [] w (w.alloc (.cells #[.int .i64 r.kind, .int .u32 (r.tup.src.toNat : Nat), .int .u32 (r.tup.dst.toNat : Nat), .int .i64 r.tup.proto, .int .i64 r.tup.sport, .int .i64 r.tup.dport, .int .i64 r.fb, .int .i64 r.fg, .int .i64 r.fs, .int .i64 r.gen, .slice A m c, .int .i64 r.back, .int .i64 r.until_, .int .i64 r.count] 29)) := by (repeat (first | exact Kept.refl _ _ | apply Kept.alloc | apply Kept.drew))
    have Hk0 := Lib.hid hk0
    clear hk0
    go_wp2_with (first
      | (go_at_call 7
         with_reducible refine (rPlain_any _ r ⟨BkArr.kept H.out.1 Hk0.out (by simp), fun k hk => Nat.lt_of_lt_of_le (H.out.2.1 k hk) Hk0.out.size, H.out.2.2⟩).mono ?_
         rintro e w1 ⟨v1, rfl, hv1⟩
         have Ba1 := Lib.hid ((Blk.new w 29 #[.int .i64 r.kind, .int .u32 (r.tup.src.toNat : Nat), .int .u32 (r.tup.dst.toNat : Nat), .int .i64 r.tup.proto, .int .i64 r.tup.sport, .int .i64 r.tup.dport, .int .i64 r.fb, .int .i64 r.fg, .int .i64 r.fs, .int .i64 r.gen, .slice A m c, .int .i64 r.back, .int .i64 r.until_, .int .i64 r.count]).kept hv1.kept (by simp))
         have Hv1 := Lib.hid hv1
         obtain ⟨css1, G1', hx1⟩ := hv1
         obtain ⟨A1, d1, rfl, -, -⟩ := hx1.own.form
         clear hx1)
      | ((with_reducible show wpList _ _ _ ({ dst := none, op := Op.store 29 (.tmp 1) (.tmp 14), type := _, pos := _, after := _, guard := _ } :: _) _ _); refine wpList_put (t := 29) rfl 29 (.tmp 1) (.tmp 14) rfl _ (by rfl) (by rfl) (by exact Ba1.out) (by rfl) (by kernel_rfl) (by simp [Value.oneCell']) ?_; intro w9 hb9 hk9; have Hb9 := Lib.hid hb9; have Hk9 := Lib.hid hk9; clear hb9 hk9))
    go_meet
    case rel =>
      refine ⟨A1, d1, Hb9.out, BkV.carry Hv1.out Hk0.out Hk9.out (fun k hk => ?_)⟩
      simp at hk
      subst hk
      simp
  case rest =>
    rename World => w5
    generalize plainR r = p at *
    obtain ⟨A1, d1, ba, hva⟩ := hcut
    have hca := ba.cell
    have hlt := ba.lt
    have Ba := Lib.hid ba
    have Hk9 := Lib.hid hva.kept
    obtain ⟨G2, ha, hG⟩ := hva.arr BkOk
    obtain ⟨-, a2, a3, -⟩ := BkArr.len ha
    unfold maxLen at a3
    have Ha := Lib.hid ha
    generalize hn : p.backs.length = n at hca Ba a2 a3 Ha
    have Hn := Lib.hid hn
    clear ba hva ha hG hn
    go_upto_region 4 with fail
    go_cut [35] (fun c wx => c = .bool (badQ p n) ∧ Kept [] w5 wx)
    case first =>
      have h4 : decide ((16 : Int) < (n : Int)) = decide (16 < n) := by rw [decide_eq_decide]; omega
      have hx : decide (16 < n) = true ∨ decide (16 < n) = false := by cases decide (16 < n) <;> simp
      have hr := Lib.hid (show badQ p n = (((p.kind == 1 || p.kind == 2) && !mayT p.tup) || decide (16 < n)) from rfl)
      have hkk : ((p.kind == 1) = true ∧ (p.kind == 2) = false) ∨ ((p.kind == 1) = false ∧ (p.kind == 2) = true) ∨ ((p.kind == 1) = false ∧ (p.kind == 2) = false) := by
        by_cases h1 : p.kind = 1
        · simp [h1]
        · by_cases h2 : p.kind = 2 <;> simp [h1, h2]
      rcases hkk with ⟨h1, h2⟩ | ⟨h1, h2⟩ | ⟨h1, h2⟩
      all_goals
        cases h3 : mayT p.tup
        all_goals
          rw [h1, h2, h3] at hr
          rcases hx with hx | hx
          all_goals
            go_wp2_with (go_at_call 23; go_must (refine (rtMay_any _ p.tup).mono ?_; rintro e w2 ⟨rfl, hk2⟩; rw [h3]; clear hca; have hcb := (Ba.out.kept hk2 (by simp)).cell; have Hk2 := Lib.hid hk2; clear hk2))
            go_meet
            case rel => exact ⟨by rw [hr.out, hx]; rfl, by first | exact Kept.refl _ _ | exact Hk2.out⟩
    case rest =>
      obtain ⟨rfl, hk6⟩ := hcut
      have Hk6 := Lib.hid (Hk9.out.trans hk6 (by simp))
      have B6 := Lib.hid (Ba.out.kept hk6 (by simp))
      have Ha6 := Lib.hid (BkArr.kept Ha.out hk6 (by simp))
      clear hca hk6 Ba Ha
      have hca := B6.out.cell
      cases hb : badQ p n
      · obtain ⟨hq, h16⟩ := mayP_ok Hn.out hb
        have Hq := Lib.hid hq
        clear hq hb
        go_wp2
        go_loopg [39] n (fun g i wr => ∃ k : Nat, k ≤ n ∧ g = n - k ∧ i = .int .i64 k ∧ p.backs.all mayB = (p.backs.drop k).all mayB ∧ Kept [] wc wr)
        case atStart => exact ⟨0, by omega, by omega, rfl, by simp, Kept.refl _ _⟩
        case round =>
          obtain ⟨k, hk, rfl, rfl, hs, hkw⟩ := hrel
          have Hs := Lib.hid hs
          have Hkw := Lib.hid hkw
          clear hs hkw hca
          by_cases hlt : k < n
          · have hkl : k < p.backs.length := by rw [Hn.out]; exact hlt
            obtain ⟨g, o, rfl, hg, hgG, c0, c1, c2⟩ := (BkArr.kept Ha6.out Hkw.out (by simp)).at (k := k) hkl
            have Hd := Lib.hid (show (p.backs.drop k).all mayB = (mayB p.backs[k] && (p.backs.drop (k + 1)).all mayB) by rw [← List.getElem_cons_drop (h := hkl)]; rfl)
            generalize p.backs[k]'hkl = b at *
            clear hkl
            have i0 : (0 : Int) ≤ (k : Int) := by omega
            have i1 : (k : Int) < (n : Int) := by omega
            cases hb : mayB b
            · have hx := Lib.hid (show mayP p = false by rw [Hq.out, Hs.out, Hd.out, hb]; rfl)
              go_wp2_with (go_at_call 24; refine (rMayB_any _ b).mono ?_; rintro e w2 ⟨rfl, hk2⟩; rw [hb]; have Hk2 := Lib.hid hk2; clear hk2)
              go_ret
              exact ⟨ret_bool (by rw [hres.out, hx.out]), ((Hk6.out.trans Hkw.out (by simp)).alloc _).trans Hk2.out (by simp)⟩
            · have hx := Lib.hid (show p.backs.all mayB = (p.backs.drop (k + 1)).all mayB by rw [Hs.out, Hd.out, hb]; rfl)
              go_wp2_with (go_at_call 24; refine (rMayB_any _ b).mono ?_; rintro e w2 ⟨rfl, hk2⟩; rw [hb]; have Hk2 := Lib.hid hk2; clear hk2)
              go_roundg (n - (k + 1))
              case measure => omega
              case rel => exact ⟨k + 1, by omega, rfl, by go_num, hx.out, (Hkw.out.alloc _).trans Hk2.out (by simp)⟩
          · have hx := Lib.hid (show mayP p = restQ p by rw [Hq.out, Hs.out, List.drop_of_length_le (by rw [Hn.out]; omega)]; rfl)
            have B7 := Lib.hid (B6.out.kept Hkw.out (by simp))
            have hcb := B7.out.cell
            go_wp2_with (first
              | (go_at_call 25; refine (rid_any _ _).mono ?_; rintro e w2 ⟨rfl, rfl⟩)
              | (go_at_call 26; refine (rcount_any _ _).mono ?_; rintro e w2 ⟨rfl, rfl⟩)
              | (go_at_call 27; refine (rtime_any _ _).mono ?_; rintro e w2 ⟨rfl, rfl⟩))
            all_goals
              go_ret
              refine ⟨ret_bool ?_, Hk6.out.trans Hkw.out (by simp)⟩
              rw [hres.out, hx.out]
              simp [restQ, *]
      · have hx := Lib.hid (mayP_bad Hn.out hb)
        clear hb
        go_wp2
        go_ret
        exact ⟨ret_bool (by rw [hres.out, hx.out]), Hk6.out⟩
end Go.Proofs.Ytoibecclilmllaa
