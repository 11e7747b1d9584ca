
/-
  The document's disk: its operations but Append and Crash.
-/
import Derived.Test.YthdjdfdefibepaaRkG
namespace Go.Proofs.Ythdjdfdefibepaa
open Go.RowKit Go.ChangeShapes Go.WideShapes Go.ChangeAt Go.Deep Go.MapKept
set_option linter.unusedVariables false

structure OkM (M : RkD) : Prop where
  now : ∀ q ∈ M.now, q.2 < M.files.length
  sur : ∀ q ∈ M.sur, q.2 < M.files.length
  ch : ∀ c ∈ M.ch, c.f < M.files.length
  n : 0 ≤ M.n ∧ M.n ≤ 1000
  fail : 0 ≤ M.fail ∧ M.fail ≤ 9223372036854775807
  nl : M.now.length ≤ 400 ∧ M.sur.length ≤ 400 ∧ M.ch.length ≤ 400 ∧ M.files.length ≤ 400
  sure : ∀ f ∈ M.files, f.sure ≤ f.b.length ∧ f.b.length ≤ 1048576
  quota : 0 ≤ M.quota ∧ M.quota ≤ 67108864
def remM (M : RkD) (x : Bs) : Int × RkD := if (opM M).1 then (8, (opM M).2) else match getM M.now x with | some i => (0, chgM (opM M).2 ⟨x, [], i⟩) | none => (6, (opM M).2)
def renM (M : RkD) (x y : Bs) : Int × RkD := if (opM M).1 then (8, (opM M).2) else match getM M.now x with | some i => if namedD y = false then (1, (opM M).2) else if x = y then (0, (opM M).2) else (0, chgM (opM M).2 ⟨x, y, i⟩) | none => (6, (opM M).2)
def sdrM (M : RkD) : Int × RkD := if (opM M).1 then (8, (opM M).2) else (0, { (opM M).2 with sur := M.now, ch := [] })
def synM (M : RkD) (x : Bs) : Int × RkD := if (opM M).1 then (8, (opM M).2) else match getM M.now x with | some i => (0, { (opM M).2 with files := match M.files[i]? with | some f => M.files.set i ⟨f.b, f.b.length⟩ | none => M.files }) | none => (6, (opM M).2)
def cutM (M : RkD) (x : Bs) (n : Int) : Int × RkD := if (opM M).1 then (8, (opM M).2) else match getM M.now x with | some i => if n < 0 ∨ (lenF M.files i : Int) < n then (1, (opM M).2) else (0, { (opM M).2 with files := match M.files[i]? with | some f => M.files.set i ⟨f.b.take n.toNat, n.toNat⟩ | none => M.files }) | none => (6, (opM M).2)
def reaM (M : RkD) (x : Bs) : Option Bs := (getM M.now x).bind fun i => (M.files[i]?).map (·.b)
def newMk (q : Int) : RkD := ⟨[], [], [], [], max 0 (min q 67108864), 0, 0⟩
section
variable {w w' : World} {p : Nat} {H : List Nat} {vs : List FvD} {M : RkD} {A1 A2 A3 A4 : Option Addr} {c1 c2 c3 c4 : Nat}
theorem RkX.to (h : RkX w' p H vs M A1 c1 A2 c2 A3 c3 A4 c4) (hk : Kept [p] w w') : RkTo w p H M w' := ⟨H, vs, A1, c1, A2, c2, A3, c3, A4, c4, h, hk, fun k hm => .inl hm⟩
theorem RkTo.go {w2 : World} (h : RkTo w p H M w') (hk : Kept [] w' w2) : RkTo w p H M w2 := by
  obtain ⟨H', vs, B1, d1, B2, d2, B3, d3, B4, d4, h1, h2, h3⟩ := h
  exact ⟨H', vs, B1, d1, B2, d2, B3, d3, B4, d4, h1.go hk, h2.trans hk (by simp), h3⟩
theorem rop_gen (h : RkX w p H vs M A1 c1 A2 c2 A3 c3 A4 c4) (ok : OkM M) : ∃ fa n1 f1, opM M = (fa, { M with n := n1, fail := f1 }) ∧ Calls Try.prog 62 #[.pointer (some ⟨p, 0, none⟩)] w fun e w' => e = .returned (.bool fa) ∧ RkX w' p H vs { M with n := n1, fail := f1 } A1 c1 A2 c2 A3 c3 A4 c4 ∧ Kept [p] w w' := by
  have hz := rop_any h ⟨ok.n.1, by have := ok.n.2; omega⟩ ok.fail
  by_cases h0 : 0 < M.fail
  · have e : opM M = (decide (M.fail - 1 = 0), { M with n := M.n + 1, fail := M.fail - 1 }) := by unfold opM; rw [if_pos h0]
    rw [e] at hz
    exact ⟨_, _, _, e, hz⟩
  · have e : opM M = (false, { M with n := M.n + 1, fail := M.fail }) := by unfold opM; rw [if_neg h0]
    rw [e] at hz
    exact ⟨_, _, _, e, hz⟩
set_option maxHeartbeats 3200000 in
theorem rRemove_any (h : RkX w p H vs M A1 c1 A2 c2 A3 c3 A4 c4) (ok : OkM M) (x : Bs) :
    Calls Try.prog 51 #[.pointer (some ⟨p, 0, none⟩), .string (strOf x)] w fun e w' => e = .returned (.int .i64 (remM M x).1) ∧ RkTo w p H (remM M x).2 w' := by
  obtain ⟨fa, n1, f1, hop, hz⟩ := rop_gen h ok
  have HX := Lib.hid h
  have OK := Lib.hid ok
  have HOP := Lib.hid hz
  have HO := Lib.hid hop
  clear h ok hz hop
  go_enter Try.func51, Try.ntmps51
  cases fa
  rotate_left
  · have HR := Lib.hid (show remM M x = (8, { M with n := n1, fail := f1 }) by unfold remM; rw [HO.out]; rfl)
    go_wp2_with (first
      | (go_at_call 62
         refine HOP.out.mono ?_
         rintro e w1 ⟨rfl, h1, hk1⟩
         have X1 := Lib.hid h1
         have K1 := Lib.hid hk1
         have B1 := Lib.hid (show Blk w1 p 87 #[.slice A1 M.files.length c1, .slice A2 M.now.length c2, .slice A3 M.sur.length c3, .slice A4 M.ch.length c4, .int .i64 M.quota, .int .i64 n1, .int .i64 f1] from h1.blk)
         have hx1 := B1.out.cell
         have hf1 := B1.out.frozen
         have hl1 := B1.out.lt
         clear h1 hk1))
    go_ret
    exact ⟨by rw [HR.out]; rfl, by rw [HR.out]; exact X1.out.to K1.out⟩
  rcases hg : getM M.now x with _ | i
  · have HGF := Lib.hid (show fidx (getM M.now x) = -1 by rw [hg]; rfl)
    have HR := Lib.hid (show remM M x = (6, { M with n := n1, fail := f1 }) by unfold remM; rw [HO.out, hg]; rfl)
    clear hg
    go_wp2_with (first
      | (go_at_call 62
         refine HOP.out.mono ?_
         rintro e w1 ⟨rfl, h1, hk1⟩
         have X1 := Lib.hid h1
         have K1 := Lib.hid hk1
         have B1 := Lib.hid (show Blk w1 p 87 #[.slice A1 M.files.length c1, .slice A2 M.now.length c2, .slice A3 M.sur.length c3, .slice A4 M.ch.length c4, .int .i64 M.quota, .int .i64 n1, .int .i64 f1] from h1.blk)
         have hx1 := B1.out.cell
         have hf1 := B1.out.frozen
         have hl1 := B1.out.lt
         clear h1 hk1)
      | (go_at_call 64
         refine (rfind_any w1 X1.out.nw x).mono ?_
         rintro e w2 ⟨rfl, hk2⟩
         rw [HGF.out]
         have X2 := Lib.hid (X1.out.go hk2)
         have K2 := Lib.hid (K1.out.trans hk2 (by simp) : Kept [p] w w2)
         have B2 := Lib.hid (B1.out.kept hk2 (by simp))
         have hx2 := B2.out.cell
         have hf2 := B2.out.frozen
         have hl2 := B2.out.lt
         clear hk2 hx1 hf1 hl1))
    go_ret
    exact ⟨by rw [HR.out]; rfl, by rw [HR.out]; exact X2.out.to K2.out⟩
  · have HGF := Lib.hid (show fidx (getM M.now x) = (i : Nat) by rw [hg]; rfl)
    have HR := Lib.hid (show remM M x = (0, chgM { M with n := n1, fail := f1 } ⟨x, [], i⟩) by unfold remM; rw [HO.out, hg]; rfl)
    have i0 : ¬ (i : Int) < 0 := by omega
    clear hg
    go_wp2_with (first
      | (go_at_call 62
         refine HOP.out.mono ?_
         rintro e w1 ⟨rfl, h1, hk1⟩
         have X1 := Lib.hid h1
         have K1 := Lib.hid hk1
         have B1 := Lib.hid (show Blk w1 p 87 #[.slice A1 M.files.length c1, .slice A2 M.now.length c2, .slice A3 M.sur.length c3, .slice A4 M.ch.length c4, .int .i64 M.quota, .int .i64 n1, .int .i64 f1] from h1.blk)
         have hx1 := B1.out.cell
         have hf1 := B1.out.frozen
         have hl1 := B1.out.lt
         clear h1 hk1)
      | (go_at_call 64
         refine (rfind_any w1 X1.out.nw x).mono ?_
         rintro e w2 ⟨rfl, hk2⟩
         rw [HGF.out]
         have X2 := Lib.hid (X1.out.go hk2)
         have K2 := Lib.hid (K1.out.trans hk2 (by simp) : Kept [p] w w2)
         have B2 := Lib.hid (B1.out.kept hk2 (by simp))
         have hx2 := B2.out.cell
         have hf2 := B2.out.frozen
         have hl2 := B2.out.lt
         clear hk2 hx1 hf1 hl1)
      | (go_at_call 65
         have hz : Calls Try.prog 65 #[.pointer (some ⟨p, 0, none⟩), .agg #[.string (strOf x), .string ⟨#[]⟩, .int .i64 (i : Nat)]] w2 _ := rchange_any X2.out ⟨x, [], i⟩ (by have := OK.out.nl; simp only; omega) (by have := OK.out.nl; simp only; omega)
         refine hz.mono ?_
         clear hz
         rintro e w3 ⟨rfl, h3⟩
         have T3 := Lib.hid (RkTo.from (H := H) h3 K2.out (fun k hk => .inl hk))
         clear h3))
    go_ret
    exact ⟨by rw [HR.out]; rfl, by rw [HR.out]; exact T3.out⟩
set_option maxHeartbeats 3200000 in
theorem rRename_any (h : RkX w p H vs M A1 c1 A2 c2 A3 c3 A4 c4) (ok : OkM M) (x y : Bs) (hy : y.length ≤ 1000000) :
    Calls Try.prog 50 #[.pointer (some ⟨p, 0, none⟩), .string (strOf x), .string (strOf y)] w fun e w' => e = .returned (.int .i64 (renM M x y).1) ∧ RkTo w p H (renM M x y).2 w' := by
  obtain ⟨fa, n1, f1, hop, hz⟩ := rop_gen h ok
  have HX := Lib.hid h
  have OK := Lib.hid ok
  have HOP := Lib.hid hz
  have HO := Lib.hid hop
  have HY := Lib.hid hy
  have tx := strOf_toList x
  have ty := strOf_toList y
  clear h ok hz hop
  clear hy
  go_enter Try.func50, Try.ntmps50
  cases fa
  rotate_left
  · have HR := Lib.hid (show renM M x y = (8, { M with n := n1, fail := f1 }) by unfold renM; rw [HO.out]; rfl)
    go_wp2_with (first
      | (go_at_call 62
         refine HOP.out.mono ?_
         rintro e w1 ⟨rfl, h1, hk1⟩
         have X1 := Lib.hid h1
         have K1 := Lib.hid hk1
         have B1 := Lib.hid (show Blk w1 p 87 #[.slice A1 M.files.length c1, .slice A2 M.now.length c2, .slice A3 M.sur.length c3, .slice A4 M.ch.length c4, .int .i64 M.quota, .int .i64 n1, .int .i64 f1] from h1.blk)
         have hx1 := B1.out.cell
         have hf1 := B1.out.frozen
         have hl1 := B1.out.lt
         clear h1 hk1))
    go_ret
    exact ⟨by rw [HR.out]; rfl, by rw [HR.out]; exact X1.out.to K1.out⟩
  rcases hg : getM M.now x with _ | i
  · have HGF := Lib.hid (show fidx (getM M.now x) = -1 by rw [hg]; rfl)
    have HR := Lib.hid (show renM M x y = (6, { M with n := n1, fail := f1 }) by unfold renM; rw [HO.out, hg]; rfl)
    clear hg
    go_wp2_with (first
      | (go_at_call 62
         refine HOP.out.mono ?_
         rintro e w1 ⟨rfl, h1, hk1⟩
         have X1 := Lib.hid h1
         have K1 := Lib.hid hk1
         have B1 := Lib.hid (show Blk w1 p 87 #[.slice A1 M.files.length c1, .slice A2 M.now.length c2, .slice A3 M.sur.length c3, .slice A4 M.ch.length c4, .int .i64 M.quota, .int .i64 n1, .int .i64 f1] from h1.blk)
         have hx1 := B1.out.cell
         have hf1 := B1.out.frozen
         have hl1 := B1.out.lt
         clear h1 hk1)
      | (go_at_call 64
         refine (rfind_any w1 X1.out.nw x).mono ?_
         rintro e w2 ⟨rfl, hk2⟩
         rw [HGF.out]
         have X2 := Lib.hid (X1.out.go hk2)
         have K2 := Lib.hid (K1.out.trans hk2 (by simp) : Kept [p] w w2)
         have B2 := Lib.hid (B1.out.kept hk2 (by simp))
         have hx2 := B2.out.cell
         have hf2 := B2.out.frozen
         have hl2 := B2.out.lt
         clear hk2 hx1 hf1 hl1))
    go_ret
    exact ⟨by rw [HR.out]; rfl, by rw [HR.out]; exact X2.out.to K2.out⟩
  · have HGF := Lib.hid (show fidx (getM M.now x) = (i : Nat) by rw [hg]; rfl)
    have i0 : ¬ (i : Int) < 0 := by omega
    rcases hn : namedD y with _ | _
    · have HNM := Lib.hid hn
      have HR := Lib.hid (show renM M x y = (1, { M with n := n1, fail := f1 }) by unfold renM; rw [HO.out, hg, hn]; rfl)
      clear hg hn
      go_wp2_with (first
        | (go_at_call 62
           refine HOP.out.mono ?_
           rintro e w1 ⟨rfl, h1, hk1⟩
           have X1 := Lib.hid h1
           have K1 := Lib.hid hk1
           have B1 := Lib.hid (show Blk w1 p 87 #[.slice A1 M.files.length c1, .slice A2 M.now.length c2, .slice A3 M.sur.length c3, .slice A4 M.ch.length c4, .int .i64 M.quota, .int .i64 n1, .int .i64 f1] from h1.blk)
           have hx1 := B1.out.cell
           have hf1 := B1.out.frozen
           have hl1 := B1.out.lt
           clear h1 hk1)
        | (go_at_call 64
           refine (rfind_any w1 X1.out.nw x).mono ?_
           rintro e w2 ⟨rfl, hk2⟩
           rw [HGF.out]
           have X2 := Lib.hid (X1.out.go hk2)
           have K2 := Lib.hid (K1.out.trans hk2 (by simp) : Kept [p] w w2)
           have B2 := Lib.hid (B1.out.kept hk2 (by simp))
           have hx2 := B2.out.cell
           have hf2 := B2.out.frozen
           have hl2 := B2.out.lt
           clear hk2 hx1 hf1 hl1)
        | (go_at_call 63
           refine (rmay_any _ y HY.out).mono ?_
           rintro e w9 ⟨rfl, rfl⟩
           rw [HNM.out]))
      go_ret
      exact ⟨by rw [HR.out]; rfl, by rw [HR.out]; exact X2.out.to K2.out⟩
    · have HNM := Lib.hid hn
      by_cases hxy : x = y
      · have HR := Lib.hid (show renM M x y = (0, { M with n := n1, fail := f1 }) by unfold renM; rw [HO.out, hg, hn]; simp [hxy])
        have b1 : (x == y) = true := by simpa using hxy
        have b2 : (x != y) = false := by simpa using hxy
        clear hg hn hxy
        go_wp2_with (first
          | (go_at_call 62
             refine HOP.out.mono ?_
             rintro e w1 ⟨rfl, h1, hk1⟩
             have X1 := Lib.hid h1
             have K1 := Lib.hid hk1
             have B1 := Lib.hid (show Blk w1 p 87 #[.slice A1 M.files.length c1, .slice A2 M.now.length c2, .slice A3 M.sur.length c3, .slice A4 M.ch.length c4, .int .i64 M.quota, .int .i64 n1, .int .i64 f1] from h1.blk)
             have hx1 := B1.out.cell
             have hf1 := B1.out.frozen
             have hl1 := B1.out.lt
             clear h1 hk1)
          | (go_at_call 64
             refine (rfind_any w1 X1.out.nw x).mono ?_
             rintro e w2 ⟨rfl, hk2⟩
             rw [HGF.out]
             have X2 := Lib.hid (X1.out.go hk2)
             have K2 := Lib.hid (K1.out.trans hk2 (by simp) : Kept [p] w w2)
             have B2 := Lib.hid (B1.out.kept hk2 (by simp))
             have hx2 := B2.out.cell
             have hf2 := B2.out.frozen
             have hl2 := B2.out.lt
             clear hk2 hx1 hf1 hl1)
          | (go_at_call 63
             refine (rmay_any _ y HY.out).mono ?_
             rintro e w9 ⟨rfl, rfl⟩
             rw [HNM.out]))
        go_ret
        exact ⟨by rw [HR.out]; rfl, by rw [HR.out]; exact X2.out.to K2.out⟩
      · have HR := Lib.hid (show renM M x y = (0, chgM { M with n := n1, fail := f1 } ⟨x, y, i⟩) by unfold renM; rw [HO.out, hg, hn]; simp [hxy])
        have b1 : (x == y) = false := by simpa using hxy
        have b2 : (x != y) = true := by simpa using hxy
        clear hg hn hxy
        go_wp2_with (first
          | (go_at_call 62
             refine HOP.out.mono ?_
             rintro e w1 ⟨rfl, h1, hk1⟩
             have X1 := Lib.hid h1
             have K1 := Lib.hid hk1
             have B1 := Lib.hid (show Blk w1 p 87 #[.slice A1 M.files.length c1, .slice A2 M.now.length c2, .slice A3 M.sur.length c3, .slice A4 M.ch.length c4, .int .i64 M.quota, .int .i64 n1, .int .i64 f1] from h1.blk)
             have hx1 := B1.out.cell
             have hf1 := B1.out.frozen
             have hl1 := B1.out.lt
             clear h1 hk1)
          | (go_at_call 64
             refine (rfind_any w1 X1.out.nw x).mono ?_
             rintro e w2 ⟨rfl, hk2⟩
             rw [HGF.out]
             have X2 := Lib.hid (X1.out.go hk2)
             have K2 := Lib.hid (K1.out.trans hk2 (by simp) : Kept [p] w w2)
             have B2 := Lib.hid (B1.out.kept hk2 (by simp))
             have hx2 := B2.out.cell
             have hf2 := B2.out.frozen
             have hl2 := B2.out.lt
             clear hk2 hx1 hf1 hl1)
          | (go_at_call 63
             refine (rmay_any _ y HY.out).mono ?_
             rintro e w9 ⟨rfl, rfl⟩
             rw [HNM.out])
          | (go_at_call 65
             have hz : Calls Try.prog 65 #[.pointer (some ⟨p, 0, none⟩), .agg #[.string (strOf x), .string (strOf y), .int .i64 (i : Nat)]] w2 _ := rchange_any X2.out ⟨x, y, i⟩ (by have := OK.out.nl; simp only; omega) (by have := OK.out.nl; simp only; omega)
             refine hz.mono ?_
             clear hz
             rintro e w3 ⟨rfl, h3⟩
             have T3 := Lib.hid (RkTo.from (H := H) h3 K2.out (fun k hk => .inl hk))
             clear h3))
        go_ret
        exact ⟨by rw [HR.out]; rfl, by rw [HR.out]; exact T3.out⟩
end
end Go.Proofs.Ythdjdfdefibepaa
