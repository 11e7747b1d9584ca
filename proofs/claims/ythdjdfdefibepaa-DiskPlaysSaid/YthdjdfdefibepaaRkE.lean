
/-
  The document's disk: names, a file read, a file put, a disk made, a disk copied, picks.
-/
import Derived.Test.YthdjdfdefibepaaRkD
namespace Go.Proofs.Ythdjdfdefibepaa
open Go.RowKit Go.ChangeShapes Go.WideShapes Go.ChangeAt Go.Deep Go.MapKept
set_option linter.unusedVariables false

def SrDec (w : World) (G : List Nat) (cs : List Value) (q : Bs) : Prop := cs = [.string (strOf q)]
theorem SrOk : DecOk 1 SrDec where
  len := by rintro w G cs f rfl; rfl
  one := by rintro w G cs f rfl u hu; simp at hu; rcases hu with rfl; rfl
  kept := by rintro w w' G S cs f h hk hd; exact h
  mono := by rintro w G G' cs f h hg; exact h
theorem info_sr : (Try.prog.info? 9).map (fun i => (i.zero, i.size, i.bytes)) = some (some (.string ⟨#[]⟩), 1, 16) := by kernel_rfl
theorem elem_sr : Elem Try.prog 31 9 1 16 := Elem.mk' Try.underlying31 info_sr rfl (by omega)
abbrev SrV (W w : World) (v : Value) (l : List Bs) : Prop := LV SrDec 9 1 W w v l
theorem SrV.arr {W w : World} {A : Option Addr} {m c : Nat} {l : List Bs} (h : SrV W w (.slice A m c) l) : StrA w A m l := by
  have ha := (lv_arr SrOk (fun h => h) h).1
  refine ⟨(arr_lens ha).1, fun i x hi => ?_⟩
  obtain ⟨g, o, cs, e, h1, h2, rfl, hc⟩ := arr_at ha hi
  have h0 := hc 0 (by omega)
  rcases lv_form h with ⟨e1, e2⟩ | ⟨g', c', e1, _⟩
  · rw [e2] at hi; simp at hi
  · injection e1 with e1
    rw [e] at e1
    injection e1 with e1
    injection e1 with e1 e2
    subst e1 e2
    refine ⟨g, e, h1, ?_⟩
    simpa using h0
section
variable {w : World} {p : Nat} {H : List Nat} {vs : List FvD} {M : RkD} {A1 A2 A3 A4 : Option Addr} {c1 c2 c3 c4 : Nat}
def namM (M : RkD) : List Bs := M.now.map (·.1)
def NamPost (w : World) (l : List Bs) (e : Ending) (w' : World) : Prop := ∃ A m c, e = .returned (.slice A m c) ∧ SrV w w' (.slice A m c) l
set_option maxHeartbeats 3200000 in
theorem rNames_any (h : RkX w p H vs M A1 c1 A2 c2 A3 c3 A4 c4) (hm : M.now.length ≤ 1000) :
    Calls Try.prog 32 #[.pointer (some ⟨p, 0, none⟩)] w fun e w' => NamPost w (namM M) e w' := by
  have HX := Lib.hid h
  have hfr := h.blk.frozen
  have hl := h.blk.lt
  have L2 := (arr_lens h.nw).2
  obtain ⟨a2, a3, a4⟩ := L2
  unfold maxLen at a3
  clear h a4
  obtain ⟨m, hml⟩ : ∃ m, M.now.length = m := ⟨_, rfl⟩
  have ML := Lib.hid hml
  rw [hml] at hm a2
  have B1 := Lib.hid (hml ▸ HX.out.blk : Blk w p 87 #[.slice A1 M.files.length c1, .slice A2 m c2, .slice A3 M.sur.length c3, .slice A4 M.ch.length c4, .int .i64 M.quota, .int .i64 M.n, .int .i64 M.fail])
  have N1 := Lib.hid (hml ▸ HX.out.nw : NmArr w H (.slice A2 m c2) M.now)
  clear hml
  have hc := B1.out.cell
  go_enter Try.func32, Try.ntmps32
  go_wp2
  go_loopg [3, 11] m (fun gg s i wr => ∃ (j : Nat) (A : Option Addr) (m1 c1 : Nat), j ≤ m ∧ gg = m - j ∧ s = .slice A m1 c1 ∧ i = .int .i64 (j : Nat) ∧ SrV w wr (.slice A m1 c1) ((M.now.take j).map (·.1)))
  case atStart => exact ⟨0, _, _, _, by omega, by omega, rfl, rfl, LV.nil (Kept.refl _ _)⟩
  case round =>
    obtain ⟨j, As, ms, cs, hj, rfl, rfl, rfl, hv⟩ := hrel
    have HV := Lib.hid hv
    have KW := Lib.hid (LV.kept hv)
    clear hv hc
    by_cases hlt : j < m
    · obtain ⟨q, hq⟩ : ∃ q, M.now[j]? = some q := ⟨_, List.getElem?_eq_getElem (by rw [ML.out]; exact hlt)⟩
      obtain ⟨g, o, hA2, hg, hgG, d0, d1⟩ := (N1.out.kept KW.out (by simp)).at hq
      subst hA2
      have Htk := Lib.hid (show (M.now.take (j + 1)).map (·.1) = (M.now.take j).map (·.1) ++ [q.1] by rw [List.take_add_one, hq]; simp)
      have HLL := Lib.hid (show ((M.now.take j).map (·.1)).length + [q.1].length ≤ 100000 by rw [List.length_map, List.length_take]; simp; omega)
      have i0 : (0 : Int) ≤ (j : Int) := by omega
      have i1 : (j : Int) < (m : Int) := by omega
      have iw : IntKind.i64.wrap ((j : Int) + 1) = (j : Int) + 1 := IntWalk.i64_in _ (by omega)
      clear hq
      go_wp2_with (first
        | (((with_reducible show wpList _ _ _ ({ dst := none, op := Op.store 89 (.tmp 5) (.tmp 14), type := _, pos := _, after := _, guard := _ } :: _) _ _); refine wpList_put (t := 89) rfl 89 (.tmp 5) (.tmp 14) rfl _ (by rfl) (by rfl) (by (repeat (first | (apply Blk.new'; simp; done) | apply Blk.alloc | apply Blk.drew))) (by rfl) (by kernel_rfl) (by simp [Value.oneCell']) ?_; intro w5 hb5 hk5; have Hb5 := Lib.hid hb5; have Hk5 := Lib.hid hk5; clear hb5 hk5)
           have K5 := Lib.hid (((Kept.refl [] wr).alloc _).trans Hk5.out (fun i hi => .inr (by simp at hi; omega)) : Kept [] wr w5)
           have hx5 := Hb5.out.cell)
        | (at_builtin
           have hN7 := LV.go SrOk HV.out (K5.out.alloc (.cells #[.string (strOf q.1)] 9))
           apply wpList_lvs (l2 := [q.1]) SrOk elem_sr (fun h => h) (by omega) rfl (.tmp 15) (.tmp 18) rfl
           case hs => exact rfl
           case hN => exact hN7
           case hx => exact rfl
           case hb => exact arr_blk (Blk.new _ _ _) rfl rfl
           case hl => exact HLL.out
           intro A7 m7 c7 w7 h7 k7 r7
           have V7 := Lib.hid h7
           clear h7 k7 r7 hN7))
      go_roundg (m - (j + 1))
      case measure => omega
      case rel => exact ⟨j + 1, _, _, _, by omega, rfl, rfl, by go_num, by rw [Htk.out]; exact V7.out⟩
    · obtain rfl : j = m := by omega
      have i1 : ¬ (j : Int) < (j : Int) := by omega
      go_wp2
      go_ret
      refine ⟨_, _, _, rfl, ?_⟩
      have h1 := HV.out
      rwa [List.take_of_length_le (by rw [ML.out]; exact Nat.le_refl _)] at h1
theorem rmay_any (w : World) (s : Bs) (hl : s.length ≤ 1000000) : Calls Try.prog 63 #[.string (strOf s)] w fun e w' => e = .returned (.bool (namedD s)) ∧ w = w' := by
  have hs := strOf_size s
  have HN := Lib.hid (show namedD s = (decide (1 ≤ s.length) && decide (s.length ≤ 16)) from rfl)
  by_cases h1 : 1 ≤ s.length
  · by_cases h2 : s.length ≤ 16
    · have i1 : (1 : Int) ≤ (s.length : Int) := by omega
      have i2 : (s.length : Int) ≤ 16 := by omega
      have HR := Lib.hid (show namedD s = true by rw [HN.out, decide_eq_true h1, decide_eq_true h2]; rfl)
      clear h1 h2
      go_enter Try.func63, Try.ntmps63
      go_wp2
      go_ret
      exact ⟨by rw [HR.out]; rfl, rfl⟩
    · have i1 : (1 : Int) ≤ (s.length : Int) := by omega
      have i2 : ¬ (s.length : Int) ≤ 16 := by omega
      have HR := Lib.hid (show namedD s = false by rw [HN.out, decide_eq_true h1, decide_eq_false h2]; rfl)
      clear h1 h2
      go_enter Try.func63, Try.ntmps63
      go_wp2
      go_ret
      exact ⟨by rw [HR.out]; rfl, rfl⟩
  · have i1 : ¬ (1 : Int) ≤ (s.length : Int) := by omega
    have HR := Lib.hid (show namedD s = false by rw [HN.out, decide_eq_false h1]; rfl)
    clear h1
    go_enter Try.func63, Try.ntmps63
    go_wp2
    go_ret
    exact ⟨by rw [HR.out]; rfl, rfl⟩
def pickM (ps : Bs) (k : Nat) : Nat := match ps[k]? with | some b => b.toNat | none => 0
theorem rpick_any (w : World) {G : List Nat} {A : Option Addr} {m c : Nat} {ps : Bs} (h : RdB w G (.slice A m c) ps) (k : Nat) : Calls Try.prog 67 #[.slice A m c, .int .i64 (k : Nat)] w fun e w' => e = .returned (.int .i64 (pickM ps k : Nat)) ∧ w = w' := by
  obtain ⟨h1, h2, h3, h4⟩ := h.len
  have H := Lib.hid h
  have L1 := Lib.hid h1
  clear h h1 h4
  by_cases hk : k < m
  · obtain ⟨b, hb⟩ : ∃ b, ps[k]? = some b := ⟨_, List.getElem?_eq_getElem (by rw [L1.out]; exact hk)⟩
    have HP := Lib.hid (show pickM ps k = b.toNat by unfold pickM; rw [hb])
    obtain ⟨g, o, rfl, hg, hd⟩ : ∃ g o, A = some ⟨g, o, none⟩ ∧ g < w.heap.size ∧ w.cell? ⟨g, o + k, none⟩ = some (.int .u8 b.toNat) := by
      have hr := H.out.rd (by rw [u8s]; intro e; rw [List.map_eq_nil_iff] at e; subst e; simp at hb)
      obtain ⟨g, o, e, hc⟩ := hr
      have h9 := hc k (.int .u8 b.toNat) (by rw [u8s, List.getElem?_map, hb]; rfl)
      exact ⟨g, o, e, World.block_lt_of_cell? _ _ h9, h9⟩
    have i1 : ¬ (m : Int) ≤ (k : Int) := by omega
    have i2 : (k : Int) < (m : Int) := by omega
    have i3 : (0 : Int) ≤ (k : Int) := by omega
    have b9 := b.toNat_lt
    have iw : IntKind.i64.wrap ((b.toNat : Nat) : Int) = ((b.toNat : Nat) : Int) := IntWalk.i64_in _ (by omega)
    clear hb hk
    go_enter Try.func67, Try.ntmps67
    go_wp2
    go_ret
    exact ⟨by rw [HP.out]; rfl, rfl⟩
  · have HP := Lib.hid (show pickM ps k = 0 by unfold pickM; rw [List.getElem?_eq_none (by rw [L1.out]; omega)])
    have i1 : (m : Int) ≤ (k : Int) := by omega
    go_enter Try.func67, Try.ntmps67
    go_wp2
    go_ret
    exact ⟨by rw [HP.out]; rfl, rfl⟩
end
end Go.Proofs.Ythdjdfdefibepaa
