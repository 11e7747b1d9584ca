/-
  Decimals read: strconv.Atoi of any text, gens.number, tuple.number. (GensForms)
-/
import Derived.Stop.LaidErr
import Derived.Test.YtgndijdhmkphaaaGreatDoorTupH
import Derived.Test.YtgndijdhmkphaaaGreatDoorGfA
namespace Go.Proofs.YtgndijdhmkphaaaGreatDoor
set_option linter.unusedVariables false
section
open Go.RowKit Go.ChangeShapes Go.WideShapes Go.ChangeAt Go.Deep
set_option maxRecDepth 100000
theorem var_kept {P : Program} {w w' : World} {n : String} {cs : Array Value} (h : w.var? P n = some cs) (hk : Kept [] w w') : w'.var? P n = some cs := by
  unfold World.var? at h ⊢
  cases hg : P.globalNamed n with
  | none => simp [hg] at h
  | some g =>
    simp only [hg, Option.bind_some] at h ⊢
    have hlt : g < w.heap.size := by
      rcases Nat.lt_or_ge g w.heap.size with h' | h'
      · exact h'
      · simp [Array.getElem?_eq_none h'] at h
    rw [hk.block g hlt (by simp)]
    exact h
structure Env (w : World) : Prop where
  pow : PowTab w
  ml : ∃ m, w.cell? ⟨0, 0, none⟩ = some (.int .i64 m)
  syn : ∃ tp p, w.var? Tryz.prog "strconv.ErrSyntax" = some #[.iface tp p]
  ran : ∃ tp p, w.var? Tryz.prog "strconv.ErrRange" = some #[.iface tp p]
theorem Env.kept {w w' : World} (E : Env w) (hk : Kept [] w w') : Env w' := by
  obtain ⟨h1, ⟨m, h2⟩, ⟨a, b, h3⟩, ⟨c, d, h4⟩⟩ := E
  exact ⟨tab_kept h1 (g := 3) (by kernel_rfl) hk (by simp), ⟨m, m_kept h2 hk⟩, ⟨a, b, var_kept h3 hk⟩, ⟨c, d, var_kept h4 hk⟩⟩
theorem Atoi_ok (w : World) (s : List UInt8) {n : Int} (h : Lib.atoiAll s = .ok n) (hl : s.length ≤ 100000) : Calls Tryz.prog 49 #[.string (strOf s)] w fun e w' => e = .returned (.tuple #[.int .i64 n, .nilIface]) ∧ Kept [] w w' := by
  refine (Tryz.strconv_Atoi_ok (strOf s) (by rw [strOf_size]; omega) n (by rw [strOf_list]; exact h) w).mono ?_
  rintro e w' ⟨he, hw⟩
  refine ⟨he, ?_⟩
  rcases hw with rfl | ⟨t, rfl⟩
  · exact Kept.refl _ _
  · exact kept_bytes _ _ _
theorem Atoi_bad (w : World) (s : List UInt8) (h : ∀ n, Lib.atoiAll s ≠ .ok n) (hl : s.length ≤ 100000) (E : Env w) : Calls Tryz.prog 49 #[.string (strOf s)] w fun e w' => ∃ n N, e = .returned (.tuple #[.int .i64 n, .iface 96 (.pointer (some ⟨N, 0, none⟩))]) ∧ Kept [] w w' := by
  obtain ⟨t1, p1, h1⟩ := E.syn
  obtain ⟨t2, p2, h2⟩ := E.ran
  rcases hr : Lib.atoiAll s with n | - | -
  · exact absurd hr (h n)
  · refine (Tryz.strconv_Atoi_syntax_var (strOf s) (by rw [strOf_size]; omega) (by rw [strOf_list]; exact h) (by rw [strOf_list, hr]; simp) t1 p1 w h1).mono ?_
    rintro e w' ⟨N, he, _, _, hb⟩
    exact ⟨_, N, he, Kept.of_below hb⟩
  · refine (Tryz.strconv_Atoi_range_var (strOf s) (by rw [strOf_size]; omega) (by rw [strOf_list]; exact hr) t2 p2 w h2).mono ?_
    rintro e w' ⟨N, he, _, _, hb⟩
    exact ⟨_, N, he, Kept.of_below hb⟩
theorem canon_ok {s : List UInt8} {n : Int} (h : Lib.atoiAll s = .ok n) : canon s = if Lib.itoa n = s then some n else none := by unfold canon; rw [h]
theorem canon_bad {s : List UInt8} (h : ∀ n, Lib.atoiAll s ≠ .ok n) : canon s = none := by
  unfold canon
  rcases hr : Lib.atoiAll s with n | - | -
  · exact absurd hr (h n)
  · rfl
  · rfl
theorem strOf_beq (a b : List UInt8) : ((strOf a).toList == (strOf b).toList) = decide (a = b) := by
  rw [strOf_toList, strOf_toList, Bool.eq_iff_iff]; simp
set_option maxHeartbeats 1600000 in
theorem gNumber_any (w : World) (s : List UInt8) (hl : s.length ≤ 100000) (E : Env w) :
    Calls Tryz.prog 26 #[.string (strOf s)] w fun e w' => ∃ n, e = .returned (.tuple #[.int .i64 n, .bool (canon s).isSome]) ∧ (∀ m, canon s = some m → n = m) ∧ Kept [] w w' := by
  have HE := Lib.hid E
  by_cases hok : ∃ n, Lib.atoiAll s = .ok n
  · obtain ⟨n, hn⟩ := hok
    have hin := atoi_in hn
    have HI := Lib.hid hin
    have ha := Atoi_ok w s hn hl
    have hc := canon_ok hn
    obtain ⟨b, hb⟩ : ∃ b, decide (Lib.itoa n = s) = b := ⟨_, rfl⟩
    have hq := (strOf_beq (Lib.itoa n) s).trans hb
    have HC := Lib.hid (show (canon s).isSome = b ∧ (∀ m, canon s = some m → n = m) from by
      rw [hc]
      cases b
      · rw [if_neg (by simpa using hb)]; exact ⟨rfl, by simp⟩
      · rw [if_pos (by simpa using hb)]; exact ⟨rfl, by simp⟩)
    obtain ⟨t, ht⟩ : ∃ t, strOf (Lib.itoa n) = t := ⟨_, rfl⟩
    obtain ⟨u, hu⟩ : ∃ u, strOf s = u := ⟨_, rfl⟩
    have HT := Lib.hid ht
    rw [ht, hu] at hq
    rw [hu] at ha
    have HA := Lib.hid ha
    rw [HC.out.1, hu]
    clear E hin hn hc hl hb ht hu ha
    cases b
    all_goals
      go_enter Tryz.func26, Tryz.ntmps26
      go_wp2_with (first
        | (go_at_call 49
           go_must (refine HA.out.mono ?_)
           go_must (rintro e w1 ⟨rfl, k1⟩)
           go_must (have K := Lib.hid k1)
           go_must (clear k1))
        | (go_at_call 43
           go_must (refine (Itoa_any _ _ HI.out.1 HI.out.2 (HE.out.kept K.out).pow).mono ?_)
           go_must (rintro e w2 ⟨rfl, k1⟩)
           go_must (rw [HT.out])
           go_must (have K := Lib.hid (K.out.trans k1 (by simp)))
           go_must (clear k1)))
      go_ret2
      exact ⟨n, rfl, HC.out.2, K.out⟩
  · have hno : ∀ n, Lib.atoiAll s ≠ .ok n := fun n h => hok ⟨n, h⟩
    rw [canon_bad hno]
    have HB := Lib.hid (Atoi_bad w s hno hl E)
    clear hok hno E hl
    obtain ⟨u, hu⟩ : ∃ u, strOf s = u := ⟨_, rfl⟩
    rw [hu] at HB ⊢
    clear hu
    go_enter Tryz.func26, Tryz.ntmps26
    go_wp2_with (go_at_call 49
                 go_must (refine HB.out.mono ?_)
                 go_must (rintro e w1 ⟨n, N, rfl, k1⟩)
                 go_must (have K := Lib.hid k1)
                 go_must (clear k1))
    go_ret2
    exact ⟨n, rfl, by simp, K.out⟩
def upTo (s : List UInt8) (most : Int) : Option Int := match canon s with | some n => if 0 ≤ n ∧ n ≤ most then some n else none | none => none
set_option maxHeartbeats 3200000 in
theorem tNumber_any (w : World) (s : List UInt8) (most : Int) (hl : s.length ≤ 100000) (E : Env w) :
    Calls Tryz.prog 50 #[.string (strOf s), .int .i64 most] w fun e w' => ∃ n, e = .returned (.tuple #[.int .i64 n, .bool (upTo s most).isSome]) ∧ (∀ m, upTo s most = some m → n = m) ∧ Kept [] w w' := by
  have HE := Lib.hid E
  by_cases hok : ∃ n, Lib.atoiAll s = .ok n
  · obtain ⟨n, hn⟩ := hok
    have hin := atoi_in hn
    have HI := Lib.hid hin
    have ha := Atoi_ok w s hn hl
    have hc := canon_ok hn
    obtain ⟨b, hb⟩ : ∃ b, decide (Lib.itoa n = s) = b := ⟨_, rfl⟩
    obtain ⟨b1, hb1⟩ : ∃ b, decide (0 ≤ n) = b := ⟨_, rfl⟩
    obtain ⟨b2, hb2⟩ : ∃ b, decide (n ≤ most) = b := ⟨_, rfl⟩
    have hq := (strOf_beq (Lib.itoa n) s).trans hb
    have HC := Lib.hid (show (upTo s most).isSome = (b1 && (b2 && b)) ∧ (∀ m, upTo s most = some m → n = m) from by
      unfold upTo
      rw [hc]
      subst hb hb1 hb2
      by_cases e : Lib.itoa n = s
      · rw [if_pos e]
        dsimp only
        by_cases e2 : 0 ≤ n ∧ n ≤ most
        · rw [if_pos e2]; exact ⟨by simp [e, e2.1, e2.2], by simp⟩
        · rw [if_neg e2]; exact ⟨by simp [e]; exact fun h1 => by omega, by simp⟩
      · rw [if_neg e]; exact ⟨by simp [e], by simp⟩)
    obtain ⟨t, ht⟩ : ∃ t, strOf (Lib.itoa n) = t := ⟨_, rfl⟩
    obtain ⟨u, hu⟩ : ∃ u, strOf s = u := ⟨_, rfl⟩
    have HT := Lib.hid ht
    rw [ht, hu] at hq
    rw [hu] at ha
    have HA := Lib.hid ha
    rw [HC.out.1, hu]
    clear E hin hn hc hl hb ht hu ha
    cases b1
    case' true => cases b2
    case' true.true => cases b
    all_goals
      go_enter Tryz.func50, Tryz.ntmps50
      go_wp2_with (first
        | (go_at_call 49
           go_must (refine HA.out.mono ?_)
           go_must (rintro e w1 ⟨rfl, k1⟩)
           go_must (have K := Lib.hid k1)
           go_must (clear k1))
        | (go_at_call 43
           go_must (refine (Itoa_any _ _ HI.out.1 HI.out.2 (HE.out.kept K.out).pow).mono ?_)
           go_must (rintro e w2 ⟨rfl, k1⟩)
           go_must (rw [HT.out])
           go_must (have K := Lib.hid (K.out.trans k1 (by simp)))
           go_must (clear k1)))
      go_ret2
      exact ⟨n, rfl, HC.out.2, K.out⟩
  · have hno : ∀ n, Lib.atoiAll s ≠ .ok n := fun n h => hok ⟨n, h⟩
    have hu0 : upTo s most = none := by unfold upTo; rw [canon_bad hno]
    rw [hu0]
    have HB := Lib.hid (Atoi_bad w s hno hl E)
    clear hok hno E hl hu0
    obtain ⟨u, hu⟩ : ∃ u, strOf s = u := ⟨_, rfl⟩
    rw [hu] at HB ⊢
    clear hu
    go_enter Tryz.func50, Tryz.ntmps50
    go_wp2_with (go_at_call 49
                 go_must (refine HB.out.mono ?_)
                 go_must (rintro e w1 ⟨n, N, rfl, k1⟩)
                 go_must (have K := Lib.hid k1)
                 go_must (clear k1))
    go_ret2
    exact ⟨n, rfl, by simp, K.out⟩
end
end Go.Proofs.YtgndijdhmkphaaaGreatDoor
