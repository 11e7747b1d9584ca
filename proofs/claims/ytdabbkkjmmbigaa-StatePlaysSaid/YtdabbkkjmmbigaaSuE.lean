
/-
  States: their records, copies; a state out of a view.
-/
import Derived.Test.YtdabbkkjmmbigaaSuD
import Derived.Test.YtdabbkkjmmbigaaStCl
import Derived.Laws.EntriesVeiled
namespace Go.Proofs.Ytdabbkkjmmbigaa
open Go.RowKit Go.ChangeShapes Go.WideShapes Go.ChangeAt Go.Deep Go.MapKept
set_option linter.unusedVariables false

theorem may_len {l : List BackD} (h : mayBs l = true) : l.length ≤ 16 := by
  unfold mayBs at h
  simp at h
  exact h.1
theorem IsView.lens {S : StD} (ok : OkS S) {V : VwD} (h : IsView S V) : V.drains.length ≤ 16 ∧ V.flows.length ≤ 256 ∧ V.backs.length ≤ 16 :=
  ⟨by rw [h.dp.length_eq]; exact ok.ld, by rw [h.fp.length_eq, List.length_map]; exact ok.lf, by rw [h.backs]; exact may_len ok.mb⟩
theorem Records_any {W w : World} {p : Nat} {S : StD} (h : StB W w p S) (ok : OkS S) : Calls Try.prog 22 #[.pointer (some ⟨p, 0, none⟩)] w fun e w' => ∃ V A m c, e = .returned (.slice A m c) ∧ IsView S V ∧ RecN w w' (.slice A m c) (recsV V) := by
  have H := Lib.hid h
  have Ok := Lib.hid ok
  clear h ok
  go_enter Try.func22, Try.ntmps22
  go_wp2_with (first
    | (go_at_call 15
       refine (View_any H.out Ok.out).mono ?_
       rintro e w1 ⟨V, A1, m1, c1, A2, m2, c2, A3, m3, c3, rfl, hv, h3⟩
       have HV := Lib.hid hv
       have K1 := Lib.hid (LV.kept h3.bk)
       obtain ⟨G, hva, _⟩ := Vw3.va h3
       have VA1 := Lib.hid hva
       have hl := hv.lens Ok.out
       have RA := Lib.hid (recs_any w1 V hva (by omega) (by omega) (by omega))
       clear hv h3 hva hl)
    | (go_at_call 52
       refine RA.out.mono ?_
       rintro e w2 ⟨A, m, c, rfl, hr⟩
       have HR := Lib.hid (hr.wide K1.out)
       clear hr))
  go_ret
  exact ⟨_, _, _, _, rfl, HV.out, HR.out⟩
set_option maxHeartbeats 3200000 in
theorem Copy_any {W w : World} {p : Nat} {S : StD} (h : StB W w p S) (ok : OkS S) : Calls Try.prog 24 #[.pointer (some ⟨p, 0, none⟩)] w fun e w' => ∃ q, e = .returned (.pointer (some ⟨q, 0, none⟩)) ∧ StB w w' q S := by
  obtain ⟨bd, bf, A, m, c, h⟩ := h
  obtain ⟨G, hsm⟩ := BkV.small h.bk (by have := may_len ok.mb; omega)
  have hp := h.blk.lt
  have hc0 := h.blk.cell
  have HD := Lib.hid (h.md.kept ((Kept.refl [] w).drew) (by simp))
  have H := Lib.hid h
  have HS := Lib.hid hsm
  have KD := Lib.hid ((Kept.refl [] w).drew)
  clear h ok
  go_enter Try.func24, Try.ntmps24
  go_wp2
  go_region_held3 (fun w' => ∀ o, w'.cell? ⟨p, o, none⟩ = (#[.int .i64 S.gen, .slice A m c, .map (some bd), .map (some bf)] : Array Value)[o]?)
    (exact (Blk.kept (S := []) H.out.blk (by repeat (first | exact Kept.refl _ _ | exact K3.out | exact K2.out | exact K1.out | apply Kept.alloc | apply Kept.drew)) (by simp)).cell)
    (first
      | (go_at_call 29; refine (CloneB_any _ S.backs (BkArr.kept HS.out.1 KD.out (by simp)) (fun k hk => Nat.lt_of_lt_of_le (HS.out.2.1 k hk) KD.out.size) HS.out.2.2).mono ?_; rintro e w1 ⟨v1, rfl, hv1⟩; have K1 := Lib.hid (KD.out.trans hv1.kept (by simp)); obtain ⟨A1, m1, c1, rfl⟩ := BkV.form hv1; have V1 := Lib.hid (LV.wide hv1 KD.out); have D1 := Lib.hid (H.out.md.kept K1.out (by simp)); have X1 := Lib.hid (H.out.blk.kept K1.out (by simp)); have hx1 := X1.out.cell; clear hv1)
      | (go_at_call 53; refine (CloneD_any D1.out).mono ?_; rintro e w2 ⟨rfl, hm2, hk2⟩; have K2 := Lib.hid (K1.out.trans hk2 (by simp)); have M2 := Lib.hid hm2; have hs2 : w.heap.size ≤ w1.heap.size := K1.out.size; have hl2 : w1.heap.size < w2.heap.size := hm2.lt; have V2 := Lib.hid (LV.go BkOk V1.out hk2); have F2 := Lib.hid (H.out.mf.kept K2.out (by simp)); have X2 := Lib.hid (H.out.blk.kept K2.out (by simp)); have hx2 := X2.out.cell; clear hm2 hk2)
      | (go_at_call 54; refine (CloneF_any F2.out).mono ?_; rintro e w3 ⟨rfl, hm3, hk3⟩; have K3 := Lib.hid (K2.out.trans hk3 (by simp)); have M3 := Lib.hid hm3; have N3 := Lib.hid (M2.out.kept hk3 (by simp)); have V3 := Lib.hid (LV.go BkOk V2.out hk3); have X3 := Lib.hid (H.out.blk.kept K3.out (by simp)); have hx3 := X3.out.cell; clear hm3 hk3))
  have hl3 : w2.heap.size < w3.heap.size := M3.out.lt
  go_wp2
  go_ret
  exact ⟨w3.heap.size, rfl, w1.heap.size, w2.heap.size, A1, m1, c1, Blk.new w3 _ _, N3.out.alloc _, M3.out.alloc _, LV.go BkOk V3.out ((Kept.refl [] w3).alloc _), by omega, by omega, by omega, by omega⟩
end Go.Proofs.Ytdabbkkjmmbigaa
