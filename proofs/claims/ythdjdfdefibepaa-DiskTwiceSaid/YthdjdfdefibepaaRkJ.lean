
/-
  The document's disk: Cut, Read, Copy, NewDisk.
-/
import Derived.Test.YthdjdfdefibepaaRkI
namespace Go.Proofs.Ythdjdfdefibepaa
open Go.RowKit Go.ChangeShapes Go.WideShapes Go.ChangeAt Go.Deep Go.MapKept
set_option linter.unusedVariables false

section
variable {w w' : World} {p : Nat} {H : List Nat} {vs : List FvD} {M : RkD} {A1 A2 A3 A4 : Option Addr} {c1 c2 c3 c4 : Nat}
set_option maxHeartbeats 3200000 in
theorem rCut_any (h : RkX w p H vs M A1 c1 A2 c2 A3 c3 A4 c4) (ok : OkM M) (x : Bs) (n : Int) :
    Calls Try.prog 52 #[.pointer (some ⟨p, 0, none⟩), .string (strOf x), .int .i64 n] w fun e w' => e = .returned (.int .i64 (cutM M x n).1) ∧ RkTo w p H (cutM M x n).2 w' := by
  obtain ⟨fa, n1, f1, hop, hz⟩ := rop_gen h ok
  have HX := Lib.hid h
  have OK := Lib.hid ok
  have HOP := Lib.hid hz
  have HO := Lib.hid hop
  clear h ok hz hop
  go_enter Try.func52, Try.ntmps52
  cases fa
  rotate_left
  · have HR := Lib.hid (show cutM M x n = (8, { M with n := n1, fail := f1 }) by unfold cutM; rw [HO.out]; rfl)
    go_wp2_with (first
      | (go_at_call 62
         refine HOP.out.mono ?_
         rintro e w1 ⟨rfl, h1, hk1⟩
         have X1 := Lib.hid h1
         have K1 := Lib.hid hk1
         have B1 := Lib.hid (show Blk w1 p 87 #[.slice A1 M.files.length c1, .slice A2 M.now.length c2, .slice A3 M.sur.length c3, .slice A4 M.ch.length c4, .int .i64 M.quota, .int .i64 n1, .int .i64 f1] from h1.blk)
         have hx1 := B1.out.cell
         have hf1 := B1.out.frozen
         have hl1 := B1.out.lt
         clear h1 hk1))
    go_ret
    exact ⟨by rw [HR.out]; rfl, by rw [HR.out]; exact X1.out.to K1.out⟩
  rcases hg : getM M.now x with _ | i
  · have HGF := Lib.hid (show fidx (getM M.now x) = -1 by rw [hg]; rfl)
    have HR := Lib.hid (show cutM M x n = (6, { M with n := n1, fail := f1 }) by unfold cutM; rw [HO.out, hg]; rfl)
    clear hg
    go_wp2_with (first
      | (go_at_call 62
         refine HOP.out.mono ?_
         rintro e w1 ⟨rfl, h1, hk1⟩
         have X1 := Lib.hid h1
         have K1 := Lib.hid hk1
         have B1 := Lib.hid (show Blk w1 p 87 #[.slice A1 M.files.length c1, .slice A2 M.now.length c2, .slice A3 M.sur.length c3, .slice A4 M.ch.length c4, .int .i64 M.quota, .int .i64 n1, .int .i64 f1] from h1.blk)
         have hx1 := B1.out.cell
         have hf1 := B1.out.frozen
         have hl1 := B1.out.lt
         clear h1 hk1)
      | (go_at_call 64
         refine (rfind_any w1 X1.out.nw x).mono ?_
         rintro e w2 ⟨rfl, hk2⟩
         rw [HGF.out]
         have X2 := Lib.hid (X1.out.go hk2)
         have K2 := Lib.hid (K1.out.trans hk2 (by simp) : Kept [p] w w2)
         have B2 := Lib.hid (B1.out.kept hk2 (by simp))
         have hx2 := B2.out.cell
         have hf2 := B2.out.frozen
         have hl2 := B2.out.lt
         clear hk2 hx1 hf1 hl1))
    go_ret
    exact ⟨by rw [HR.out]; rfl, by rw [HR.out]; exact X2.out.to K2.out⟩
  · obtain ⟨f, hf⟩ : ∃ f, M.files[i]? = some f := ⟨_, List.getElem?_eq_getElem (OK.out.now _ (getM_mem hg))⟩
    have hil := (List.getElem?_eq_some_iff.1 hf).1
    have HIL := Lib.hid hil
    obtain ⟨v, hv⟩ : ∃ v, vs[i]? = some v := ⟨_, List.getElem?_eq_getElem (by rw [HX.out.fb.1]; exact hil)⟩
    obtain ⟨g1, o1, hA1, hg1, hgG, d0, d1⟩ := HX.out.fv.at hv
    have HFB := Lib.hid (HX.out.fb.2 i v f hv hf)
    have vm := HFB.out.1.len.1
    have vm2 := HFB.out.1.len.2.1
    have vm3 := HFB.out.1.len.2.2.1
    unfold maxLen at vm3
    have SF := Lib.hid (OK.out.sure f (List.mem_of_getElem? hf))
    have hgH := Lib.hid hgG
    subst hA1
    have j0 : (0 : Int) ≤ (i : Int) := by omega
    have j1 : (i : Int) < (M.files.length : Int) := by omega
    have i0 : ¬ (i : Int) < 0 := by omega
    have HGF := Lib.hid (show fidx (getM M.now x) = (i : Nat) by rw [hg]; rfl)
    have HLF := Lib.hid (show lenF M.files i = v.m by rw [lenF_get hf]; exact vm)
    by_cases hn0 : n < 0
    · have HR := Lib.hid (show cutM M x n = (1, { M with n := n1, fail := f1 }) by unfold cutM; rw [HO.out, hg]; simp [hn0])
      clear hg hf hv
      go_wp2_with (first
        | (go_at_call 62
           refine HOP.out.mono ?_
           rintro e w1 ⟨rfl, h1, hk1⟩
           have X1 := Lib.hid h1
           have K1 := Lib.hid hk1
           have B1 := Lib.hid (show Blk w1 p 87 #[.slice (some ⟨g1, o1, none⟩) M.files.length c1, .slice A2 M.now.length c2, .slice A3 M.sur.length c3, .slice A4 M.ch.length c4, .int .i64 M.quota, .int .i64 n1, .int .i64 f1] from h1.blk)
           have hx1 := B1.out.cell
           have hf1 := B1.out.frozen
           have hl1 := B1.out.lt
           clear h1 hk1)
        | (go_at_call 64
           refine (rfind_any w1 X1.out.nw x).mono ?_
           rintro e w2 ⟨rfl, hk2⟩
           rw [HGF.out]
           have X2 := Lib.hid (X1.out.go hk2)
           have K2 := Lib.hid (K1.out.trans hk2 (by simp) : Kept [p] w w2)
           have B2 := Lib.hid (B1.out.kept hk2 (by simp))
           have hx2 := B2.out.cell
           have hf2 := B2.out.frozen
           have hl2 := B2.out.lt
           clear hk2 hx1 hf1 hl1
           have e0 := (K2.out.cell (p := ⟨g1, o1 + i * 2, none⟩) hg1 (fun hm => HX.out.hd _ hgH.out hm)).trans d0
           have e1 := (K2.out.cell (p := ⟨g1, o1 + i * 2 + 1, none⟩) hg1 (fun hm => HX.out.hd _ hgH.out hm)).trans d1))
      go_ret
      exact ⟨by rw [HR.out]; rfl, by rw [HR.out]; exact X2.out.to K2.out⟩
    obtain ⟨k, rfl⟩ : ∃ k : Nat, n = (k : Nat) := ⟨n.toNat, by omega⟩
    have k0 : (0 : Int) ≤ (k : Int) := by omega
    by_cases hk : v.m < k
    · have HR := Lib.hid (show cutM M x (k : Nat) = (1, { M with n := n1, fail := f1 }) by unfold cutM; rw [HO.out, hg]; simp [HLF.out, hk])
      have k1 : (v.m : Int) < (k : Int) := by omega
      clear hg hf hv hk
      go_wp2_with (first
        | (go_at_call 62
           refine HOP.out.mono ?_
           rintro e w1 ⟨rfl, h1, hk1⟩
           have X1 := Lib.hid h1
           have K1 := Lib.hid hk1
           have B1 := Lib.hid (show Blk w1 p 87 #[.slice (some ⟨g1, o1, none⟩) M.files.length c1, .slice A2 M.now.length c2, .slice A3 M.sur.length c3, .slice A4 M.ch.length c4, .int .i64 M.quota, .int .i64 n1, .int .i64 f1] from h1.blk)
           have hx1 := B1.out.cell
           have hf1 := B1.out.frozen
           have hl1 := B1.out.lt
           clear h1 hk1)
        | (go_at_call 64
           refine (rfind_any w1 X1.out.nw x).mono ?_
           rintro e w2 ⟨rfl, hk2⟩
           rw [HGF.out]
           have X2 := Lib.hid (X1.out.go hk2)
           have K2 := Lib.hid (K1.out.trans hk2 (by simp) : Kept [p] w w2)
           have B2 := Lib.hid (B1.out.kept hk2 (by simp))
           have hx2 := B2.out.cell
           have hf2 := B2.out.frozen
           have hl2 := B2.out.lt
           clear hk2 hx1 hf1 hl1
           have e0 := (K2.out.cell (p := ⟨g1, o1 + i * 2, none⟩) hg1 (fun hm => HX.out.hd _ hgH.out hm)).trans d0
           have e1 := (K2.out.cell (p := ⟨g1, o1 + i * 2 + 1, none⟩) hg1 (fun hm => HX.out.hd _ hgH.out hm)).trans d1))
      go_ret
      exact ⟨by rw [HR.out]; rfl, by rw [HR.out]; exact X2.out.to K2.out⟩
    have HR := Lib.hid (show cutM M x (k : Nat) = (0, { M with n := n1, fail := f1, files := M.files.set i ⟨f.b.take k, k⟩ }) by unfold cutM; rw [HO.out, hg]; simp [HLF.out, hk, hf])
    have k1 : ¬ (v.m : Int) < (k : Int) := by omega
    have k2 : (k : Int) ≤ (v.m : Int) := by omega
    have k3 : (k : Int) ≤ (v.c : Int) := by omega
    have hk' : k ≤ v.m := by omega
    clear hg hf hv hk
    go_wp2_with (first
      | (go_at_call 62
         refine HOP.out.mono ?_
         rintro e w1 ⟨rfl, h1, hk1⟩
         have X1 := Lib.hid h1
         have K1 := Lib.hid hk1
         have B1 := Lib.hid (show Blk w1 p 87 #[.slice (some ⟨g1, o1, none⟩) M.files.length c1, .slice A2 M.now.length c2, .slice A3 M.sur.length c3, .slice A4 M.ch.length c4, .int .i64 M.quota, .int .i64 n1, .int .i64 f1] from h1.blk)
         have hx1 := B1.out.cell
         have hf1 := B1.out.frozen
         have hl1 := B1.out.lt
         clear h1 hk1)
      | (go_at_call 64
         refine (rfind_any w1 X1.out.nw x).mono ?_
         rintro e w2 ⟨rfl, hk2⟩
         rw [HGF.out]
         have X2 := Lib.hid (X1.out.go hk2)
         have K2 := Lib.hid (K1.out.trans hk2 (by simp) : Kept [p] w w2)
         have B2 := Lib.hid (B1.out.kept hk2 (by simp))
         have hx2 := B2.out.cell
         have hf2 := B2.out.frozen
         have hl2 := B2.out.lt
         clear hk2 hx1 hf1 hl1
         have e0 := (K2.out.cell (p := ⟨g1, o1 + i * 2, none⟩) hg1 (fun hm => HX.out.hd _ hgH.out hm)).trans d0
         have e1 := (K2.out.cell (p := ⟨g1, o1 + i * 2 + 1, none⟩) hg1 (fun hm => HX.out.hd _ hgH.out hm)).trans d1
         have SRC := Lib.hid ((HFB.out.1.kept K2.out HX.out.hd).upto k hk')
         have SL := Lib.hid (show ([] : Bs).length + (f.b.take k).length ≤ 1000000000 by rw [List.length_take]; have := SF.out.2; simp; omega))
      | (at_builtin
         apply wpList_byt (W := w2) (v := .slice none 0 0) (l := []) rfl (.const (.slice none 0 0)) (.tmp 44) rfl
         case hs => exact rfl
         case hN => exact BtV.nil (Kept.refl _ _)
         case hx => exact rfl
         case hb => exact SRC.out
         case hl => exact SL.out
         intro A9 m9 c9 w9 h9 k9 r9
         have V9 := Lib.hid h9
         have K9 := Lib.hid (show Kept [] w2 w9 from k9)
         clear h9 k9 r9)
      | (go_at_call 66
         have hz := rput_any (X2.out.go K9.out) HIL.out (s := k) V9.out.rd (fun hm => by have h1 := V9.out.new _ hm; have h2 := X2.out.blk.lt; omega) (fun q hm => V9.out.own.lt q hm) (by have := OK.out.nl; simp only; omega)
         refine hz.mono ?_
         clear hz
         rintro e w3 ⟨rfl, h3⟩
         have T3 := Lib.hid (RkTo.from (H := H) h3 (K2.out.trans K9.out (by simp)) (fun q hm => (List.mem_append.1 hm).elim .inl (fun h => .inr (Nat.le_trans K2.out.size (V9.out.new _ h)))))
         clear h3))
    go_ret
    exact ⟨by rw [HR.out]; rfl, by rw [HR.out]; exact T3.out⟩
def RRdPost (w : World) (r : Option Bs) (e : Ending) (w' : World) : Prop := Kept [] w w' ∧ ((r = none ∧ e = .returned (.tuple #[.slice none 0 0, .bool false])) ∨ ∃ b A m c, r = some b ∧ e = .returned (.tuple #[.slice A m c, .bool true]) ∧ BtV w w' (.slice A m c) b)
set_option maxHeartbeats 1600000 in
theorem rRead_any (h : RkX w p H vs M A1 c1 A2 c2 A3 c3 A4 c4) (ok : OkM M) (x : Bs) : Calls Try.prog 56 #[.pointer (some ⟨p, 0, none⟩), .string (strOf x)] w fun e w' => RRdPost w (reaM M x) e w' := by
  have HX := Lib.hid h
  have OK := Lib.hid ok
  have B0 := Lib.hid h.blk
  have hx0 := B0.out.cell
  have hl0 := B0.out.lt
  clear h ok
  rcases hg : getM M.now x with _ | i
  · have HGF := Lib.hid (show fidx (getM M.now x) = -1 by rw [hg]; rfl)
    have HR := Lib.hid (show reaM M x = none by unfold reaM; rw [hg]; rfl)
    clear hg
    go_enter Try.func56, Try.ntmps56
    go_wp2_with (first
      | (go_at_call 64
         refine (rfind_any w HX.out.nw x).mono ?_
         rintro e w2 ⟨rfl, hk2⟩
         rw [HGF.out]
         have K2 := Lib.hid hk2
         clear hk2 hx0 hl0))
    go_ret2
    exact ⟨K2.out, .inl ⟨HR.out, rfl⟩⟩
  · obtain ⟨f, hf⟩ : ∃ f, M.files[i]? = some f := ⟨_, List.getElem?_eq_getElem (OK.out.now _ (getM_mem hg))⟩
    have hil := (List.getElem?_eq_some_iff.1 hf).1
    have HIL := Lib.hid hil
    obtain ⟨v, hv⟩ : ∃ v, vs[i]? = some v := ⟨_, List.getElem?_eq_getElem (by rw [HX.out.fb.1]; exact hil)⟩
    obtain ⟨g1, o1, hA1, hg1, hgG, d0, d1⟩ := HX.out.fv.at hv
    have HFB := Lib.hid (HX.out.fb.2 i v f hv hf)
    have vm := HFB.out.1.len.1
    have vm2 := HFB.out.1.len.2.1
    have vm3 := HFB.out.1.len.2.2.1
    unfold maxLen at vm3
    have SF := Lib.hid (OK.out.sure f (List.mem_of_getElem? hf))
    have hgH := Lib.hid hgG
    subst hA1
    have j0 : (0 : Int) ≤ (i : Int) := by omega
    have j1 : (i : Int) < (M.files.length : Int) := by omega
    have i0 : ¬ (i : Int) < 0 := by omega
    have HGF := Lib.hid (show fidx (getM M.now x) = (i : Nat) by rw [hg]; rfl)
    have HR := Lib.hid (show reaM M x = some f.b by unfold reaM; rw [hg]; simp [hf])
    have SL := Lib.hid (show ([] : Bs).length + f.b.length ≤ 1000000000 by have := SF.out.2; simp; omega)
    clear hg hf hv
    go_enter Try.func56, Try.ntmps56
    go_wp2_with (first
      | (go_at_call 64
         refine (rfind_any w HX.out.nw x).mono ?_
         rintro e w2 ⟨rfl, hk2⟩
         rw [HGF.out]
         have K2 := Lib.hid hk2
         have hx2 := (B0.out.kept hk2 (by simp)).cell
         have e0 := (hk2.cell (p := ⟨g1, o1 + i * 2, none⟩) hg1 (by simp)).trans d0
         have SRC := Lib.hid (HFB.out.1.kept hk2 (by simp))
         clear hk2 hx0 hl0)
      | (at_builtin
         apply wpList_byt (W := w2) (v := .slice none 0 0) (l := []) rfl (.const (.slice none 0 0)) (.tmp 22) rfl
         case hs => exact rfl
         case hN => exact BtV.nil (Kept.refl _ _)
         case hx => exact rfl
         case hb => exact SRC.out
         case hl => exact SL.out
         intro A9 m9 c9 w9 h9 k9 r9
         have V9 := Lib.hid h9
         have K9 := Lib.hid (show Kept [] w2 w9 from k9)
         clear h9 k9 r9))
    go_ret2
    exact ⟨K2.out.trans K9.out (by simp), .inr ⟨f.b, _, _, _, HR.out, rfl, by have h := V9.out; exact ⟨h.own, fun q hm => Nat.le_trans K2.out.size (h.new q hm), K2.out.trans h.kept (by simp)⟩⟩⟩
theorem rCopy_any (h : RkX w p H vs M A1 c1 A2 c2 A3 c3 A4 c4) : Calls Try.prog 35 #[.pointer (some ⟨p, 0, none⟩)] w fun e w' => ∃ p2, e = .returned (.pointer (some ⟨p2, 0, none⟩)) ∧ RkX w' p2 H vs M A1 c1 A2 c2 A3 c3 A4 c4 ∧ Kept [] w w' ∧ w.heap.size ≤ p2 := by
  have HX := Lib.hid h
  have B0 := Lib.hid h.blk
  have hx0 := B0.out.cell
  have hl0 := B0.out.lt
  clear h
  go_enter Try.func35, Try.ntmps35
  go_wp2_with (first
    | (((with_reducible show wpList _ _ _ ({ dst := none, op := Op.store 87 (.tmp 3) (.tmp 6), type := _, pos := _, after := _, guard := _ } :: _) _ _); refine wpList_put (t := 87) rfl 87 (.tmp 3) (.tmp 6) rfl _ (by rfl) (by rfl) (by (repeat (first | (apply Blk.new'; simp; done) | apply Blk.alloc | apply Blk.drew))) (by rfl) (by kernel_rfl) (by simp [Value.oneCell']) ?_; intro w5 hb5 hk5; have Hb5 := Lib.hid hb5; have Hk5 := Lib.hid hk5; clear hb5 hk5)
       have K5 := Lib.hid (((Kept.refl [] w).alloc _).trans Hk5.out (fun i hi => .inr (by simp at hi; omega)) : Kept [] w w5)))
  go_ret
  have X5 := HX.out.go K5.out
  exact ⟨_, rfl, ⟨Hb5.out, X5.fv, X5.nw, X5.sr, X5.cv, X5.fb, fun hm => by have := HX.out.lt _ hm; omega, X5.lt⟩, K5.out, Nat.le_refl _⟩
end
theorem rNewDisk_any (w : World) (q : Int) : Calls Try.prog 28 #[.int .i64 q] w fun e w' => ∃ p, e = .returned (.pointer (some ⟨p, 0, none⟩)) ∧ RkX w' p [] [] (newMk q) none 0 none 0 none 0 none 0 ∧ Kept [] w w' ∧ w.heap.size ≤ p := by
  have key : ∀ q', (newMk q).quota = q' → RkX (w.alloc (.cells #[.slice none 0 0, .slice none 0 0, .slice none 0 0, .slice none 0 0, .int .i64 q', .int .i64 0, .int .i64 0] 87)) w.heap.size [] [] (newMk q) none 0 none 0 none 0 none 0 := by
    rintro q' rfl
    exact ⟨Blk.new _ _ _, arr_none _ _ _ _ 0 rfl, arr_none _ _ _ _ 0 rfl, arr_none _ _ _ _ 0 rfl, arr_none _ _ _ _ 0 rfl, ⟨rfl, by simp⟩, by simp, by simp⟩
  have HK := Lib.hid key
  have K1 := Lib.hid (fun (q' : Int) => (Kept.refl [] w).alloc (.cells #[.slice none 0 0, .slice none 0 0, .slice none 0 0, .slice none 0 0, .int .i64 q', .int .i64 0, .int .i64 0] 87))
  clear key
  go_enter Try.func28, Try.ntmps28
  go_wp2
  go_ret
  exact ⟨_, rfl, HK.out _ rfl, K1.out _, Nat.le_refl _⟩
end Go.Proofs.Ythdjdfdefibepaa
