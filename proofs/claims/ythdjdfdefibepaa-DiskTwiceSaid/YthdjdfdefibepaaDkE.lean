
/-
  The disk: Append.
-/
import Derived.Test.YthdjdfdefibepaaDkD
namespace Go.Proofs.Ythdjdfdefibepaa
open Go.RowKit Go.ChangeShapes Go.WideShapes Go.ChangeAt Go.Deep Go.MapKept
set_option linter.unusedVariables false

section
variable {w w' : World} {G S : List Nat} {p : Nat} {fb : List Nat} {D : DkD} {bn bs : Nat} {A : Option Addr} {m c : Nat}
/-- a file and its row are none of the rest -/
theorem DkX.far_file (h : DkX w G p fb D bn bs A m c) {g : Nat} {cs : Array Value} {v : Value} {n : Nat} {xs : List Value} (hb : Blk w g 71 cs) (ho : Own w 5 1 v n xs) (hk : Kept (g :: rowOf v) w w') :
    Blk w' p 64 #[.int .i64 D.quota, .map (some bn), .map (some bs), .slice A m c, .int .i64 D.ops, .int .i64 D.fail] ∧ MapB ekS (evF fb) w' bn D.now ∧ MapB ekS (evF fb) w' bs D.sur ∧ Own w' 76 4 (.slice A m c) D.ch.length (chsC fb D.ch) := by
  refine ⟨h.blk.kept hk (fun hm => ?_), h.now.kept hk (fun hm => ?_), h.sur.kept hk (fun hm => ?_), h.row.kept hk (fun k hk' hm => ?_)⟩
  · rcases List.mem_cons.1 hm with hm | hm
    · subst hm; exact absurd (Blk.inj h.blk hb).1 (by decide)
    · exact ho.ne_blk h.blk (by decide) hm
  · rcases List.mem_cons.1 hm with hm | hm
    · subst hm; exact h.now.ne_blk hb rfl
    · obtain ⟨c2, hb2⟩ := ho.row_blk _ hm; exact h.now.ne_blk hb2 rfl
  · rcases List.mem_cons.1 hm with hm | hm
    · subst hm; exact h.sur.ne_blk hb rfl
    · obtain ⟨c2, hb2⟩ := ho.row_blk _ hm; exact h.sur.ne_blk hb2 rfl
  · rcases List.mem_cons.1 hm with hm | hm
    · subst hm; exact h.row.ne_blk hb (by decide) hk'
    · obtain ⟨c2, hb2⟩ := ho.row_blk _ hm
      exact h.row.ne_blk hb2 (by decide) hk'
/-- one file written -/
theorem DkX.file (h : DkX w G p fb D bn bs A m c) {i : Nat} {f f' : FlE} (hf : D.files[i]? = some f) {A2 : Option Addr} {c2 : Nat} {v' : Value} (hb : Blk w (fbA fb i) 71 #[.slice A2 f.b.length c2, .int .i64 (f.sure : Nat)]) (ho0 : Own w 5 1 (.slice A2 f.b.length c2) f.b.length (u8s f.b))
    (hk : Kept (fbA fb i :: rowOf (.slice A2 f.b.length c2)) w w') (hb' : Blk w' (fbA fb i) 71 #[v', .int .i64 (f'.sure : Nat)]) (ho : Own w' 5 1 v' f'.b.length (u8s f'.b)) (hr : ∀ k ∈ rowOf v', k ∈ rowOf (.slice A2 f.b.length c2) ∨ w.heap.size ≤ k) :
    DkX w' (rowOf v' ++ G) p fb { D with files := D.files.set i f' } bn bs A m c := by
  obtain ⟨q1, q2, q3, q4⟩ := h.far_file hb ho0 hk
  refine ⟨q1, q2, q3, h.ne, q4, h.fs.set hf hb hk hb' ho hr (fun k hk' => List.mem_append_right _ hk') (fun k hk' => List.mem_append_left _ hk') h.lt, List.mem_append_right _ h.inn, List.mem_append_right _ h.ins, List.mem_append_right _ h.inp, fun k hk' => List.mem_append_right _ (h.inr k hk'), fun k hk' => ?_⟩
  rcases List.mem_append.1 hk' with hk' | hk'
  · exact ho.lt k hk'
  · exact Nat.lt_of_lt_of_le (h.lt k hk') hk.size
/-- one file more -/
theorem DkX.add (h : DkX w G p fb D bn bs A m c) (ok : OkI D) (hk : Kept [] w w') (hb : Blk w' w.heap.size 71 #[.slice none 0 0, .int .i64 0]) : DkX w' (w.heap.size :: G) p (fb ++ [w.heap.size]) { D with files := D.files ++ [⟨[], 0⟩] } bn bs A m c := by
  have hl := h.fs.len
  have h' := h.go hk
  have ht : ∀ i, i < D.files.length → evF fb i = evF (fb ++ [w.heap.size]) i := fun i hi => by unfold evF; rw [getD_app fb _ (by omega)]
  refine ⟨h'.blk, h'.now.turn (fun q hq => ht _ (ok.now q hq)), h'.sur.turn (fun q hq => ht _ (ok.sur q hq)), h.ne, ?_, h.fs.add hk hb h.lt, List.mem_cons_of_mem _ h.inn, List.mem_cons_of_mem _ h.ins, List.mem_cons_of_mem _ h.inp, fun k hk' => List.mem_cons_of_mem _ (h.inr k hk'), fun k hk' => ?_⟩
  · have := h'.row
    rwa [← chsC_more fb [w.heap.size] D.ch (fun c hc i hi => by rw [hl]; exact ok.ch c hc i hi)] at this
  · rcases List.mem_cons.1 hk' with rfl | hk'
    · exact hb.lt
    · exact Nat.lt_of_lt_of_le (h.lt k hk') hk.size
end
/-- a disk that an operation has left -/
def DkOp (w : World) (G : List Nat) (p : Nat) (D : DkD) (w' : World) : Prop := ∃ fb, DkTo w G p fb D w'
theorem DkTo.of {w w' : World} {G : List Nat} {p : Nat} {fb : List Nat} {D : DkD} {bn bs : Nat} {A : Option Addr} {m c : Nat} (h : DkX w' G p fb D bn bs A m c) (hk : Kept G w w') : DkTo w G p fb D w' := ⟨G, bn, bs, A, m, c, h, hk, fun k hk => .inl hk⟩
theorem fbA_last {fb : List Nat} {g n : Nat} (h : fb.length = n) : fbA (fb ++ [g]) n = g := by
  subst h
  exact fbA_get (by simp)
theorem fbA_inG {w : World} {G fb : List Nat} {fs : List FlE} (h : FsAt w G fb fs) {i : Nat} (hi : i < fs.length) : fbA fb i ∈ G := by
  obtain ⟨f, hf⟩ : ∃ f, fs[i]? = some f := ⟨_, List.getElem?_eq_getElem hi⟩
  obtain ⟨_, _, _, h2, _⟩ := h.get hf
  exact h2
set_option maxRecDepth 100000 in
set_option maxHeartbeats 6400000 in
theorem Append_any {w : World} {G : List Nat} {p : Nat} {fb : List Nat} {D : DkD} {bn bs : Nat} {A : Option Addr} {m c : Nat} (h : DkX w G p fb D bn bs A m c) (ok : OkI D) (ho : D.ops ≤ 1000000) (x b : Bs) (hx : x.length ≤ 1000000) {Gb : List Nat} {B : Option Addr} {n d : Nat} (hb : RdB w Gb (.slice B n d) b) (hbG : ∀ k ∈ Gb, k ∉ G) (hn : n ≤ 1000000) :
    Calls Try.prog 17 #[.pointer (some ⟨p, 0, none⟩), .string (strOf x), .slice B n d] w fun e w' => e = .returned (.int .i64 (appD D x b).1) ∧ DkOp w G p (appD D x b).2 w' := by
  have hbl := hb.len.1
  subst hbl
  have BG := Lib.hid (begin_any h ok.ops ho)
  have OK1 := Lib.hid (beg_ok ok)
  obtain ⟨sm1, sm2, sm3, sm4, sm5, sm6⟩ := beg_same D
  have HB := Lib.hid hb
  have HBG := Lib.hid hbG
  have OK := Lib.hid ok
  have HIN := Lib.hid h.inp
  have NM := Lib.hid (fun w' => named_any w' x hx)
  obtain ⟨D1, hD1⟩ : ∃ D1, (begD D).2 = D1 := ⟨_, rfl⟩
  have HD1 := Lib.hid hD1
  rw [hD1] at BG OK1 sm1 sm2 sm3 sm4 sm5 sm6
  have SM := Lib.hid (And.intro sm1 (And.intro sm2 (And.intro sm3 (And.intro sm4 (And.intro sm5 sm6)))))
  have NL := Lib.hid (show D1.now.length ≤ 1000000 by have := OK1.out.nl.1; rw [sm2] at this ⊢; have := ok.nl.1; omega)
  have CL := Lib.hid (show D1.ch.length ≤ 1000000 by rw [sm4]; have := ok.nl.2.2.1; omega)
  clear sm1 sm2 sm3 sm4 sm5 sm6 hD1
  rcases beg_cases D with ⟨hbe, he⟩ | ⟨hbe, he⟩
  · have HE := Lib.hid hbe
    have HA := Lib.hid (show appD D x b = begD D by unfold appD; rw [if_pos (by rw [hbe]; decide)])
    clear h ok hb hbG hbe he
    go_enter Try.func17, Try.ntmps17
    go_wp2_with (first
      | (go_at_call 38
         refine BG.out.mono ?_
         rintro e w1 ⟨rfl, hx1, hk1⟩
         rw [HE.out]
         have X1 := Lib.hid hx1
         have K1 := Lib.hid (hk1.mono (fun i hi => by simp at hi; subst hi; exact .inl HIN.out) : Kept G w w1)
         clear hx1 hk1))
    go_ret
    exact ⟨by rw [HA.out, HE.out]; rfl, by rw [HA.out, HD1.out]; exact ⟨fb, DkTo.of X1.out K1.out⟩⟩
  have HE := Lib.hid hbe
  cases hnm : namedD x
  · have HNM := Lib.hid hnm
    have HA := Lib.hid (show appD D x b = (1, D1) by unfold appD; rw [if_neg (by rw [hbe]; simp), if_pos hnm, HD1.out])
    clear h ok hb hbG hbe he hnm
    go_enter Try.func17, Try.ntmps17
    go_wp2_with (first
      | (go_at_call 38
         refine BG.out.mono ?_
         rintro e w1 ⟨rfl, hx1, hk1⟩
         rw [HE.out]
         have X1 := Lib.hid hx1
         have K1 := Lib.hid (hk1.mono (fun i hi => by simp at hi; subst hi; exact .inl HIN.out) : Kept G w w1)
         clear hx1 hk1)
      | (go_at_call 39
         refine (NM.out _).mono ?_
         rintro e wx ⟨rfl, rfl⟩
         rw [HNM.out]))
    go_ret
    exact ⟨by rw [HA.out]; rfl, by rw [HA.out]; exact ⟨fb, DkTo.of X1.out K1.out⟩⟩
  have HNM := Lib.hid hnm
  have HID : Hid (∀ i, getM D.now x = some i → i < D1.files.length) := Lib.hid (fun i hi => by rw [SM.out.1]; exact ok.now (x, i) (getM_mem hi))
  cases hrm : roomD D1 (getM D.now x) b.length
  · have HRM := Lib.hid hrm
    have HA := Lib.hid (show appD D x b = (7, D1) by unfold appD; rw [if_neg (by rw [hbe]; simp), if_neg (by rw [hnm]; simp), HD1.out, if_pos hrm])
    clear h ok hb hbG hbe he hnm hrm
    go_enter Try.func17, Try.ntmps17
    go_wp2_with (first
      | (go_at_call 38
         refine BG.out.mono ?_
         rintro e w1 ⟨rfl, hx1, hk1⟩
         rw [HE.out]
         have X1 := Lib.hid hx1
         have K1 := Lib.hid (hk1.mono (fun i hi => by simp at hi; subst hi; exact .inl HIN.out) : Kept G w w1)
         have hlk := hx1.look x
         rw [SM.out.2.1] at hlk
         have hc := hx1.blk.cell
         have hl := hx1.blk.lt
         clear hx1 hk1)
      | (go_at_call 39
         refine (NM.out _).mono ?_
         rintro e wx ⟨rfl, rfl⟩
         rw [HNM.out])
      | (go_at_call 40
         refine (room_any X1.out OK1.out NL.out (getM D.now x) HID.out b.length (by omega)).mono ?_
         rintro e w2 ⟨rfl, hk2⟩
         rw [HRM.out]
         have X2 := Lib.hid (X1.out.go hk2)
         have K2 := Lib.hid (K1.out.trans hk2 (by simp))
         clear hk2 hlk hc hl))
    go_ret
    exact ⟨by rw [HA.out]; rfl, by rw [HA.out]; exact ⟨fb, DkTo.of X2.out K2.out⟩⟩
  have HRM := Lib.hid hrm
  have HRM2 := Lib.hid (fun i (hi : getM D.now x = some i) => show lenF D.files i + b.length ≤ 1048576 by
    rw [hi] at hrm
    unfold roomD at hrm
    rw [SM.out.1] at hrm
    simp at hrm
    omega)
  cases hg : getM D.now x with
  | some i =>
    have hi : i < D1.files.length := HID.out i hg
    obtain ⟨f, hf⟩ : ∃ f, D1.files[i]? = some f := ⟨_, List.getElem?_eq_getElem hi⟩
    have HF := Lib.hid hf
    have HG := Lib.hid hg
    have HRN := Lib.hid (show roomD D1 (some i) b.length = true by rw [← hg]; exact HRM.out)
    have HA := Lib.hid (show appD D x b = (0, { D1 with files := D1.files.set i ⟨f.b ++ b, f.sure⟩ }) by
      unfold appD
      rw [if_neg (by rw [hbe]; simp), if_neg (by rw [hnm]; simp), HD1.out, if_neg (by rw [hrm]; simp), hg]
      simp only
      unfold appF
      rw [← SM.out.1, hf])
    have FB := Lib.hid (show f.b.length + b.length ≤ 1048576 by
      have h1 := HRM2.out i hg
      rw [← SM.out.1, lenF_get hf] at h1
      exact h1)
    clear h ok hb hbG hbe he hnm hrm hf hg
    go_enter Try.func17, Try.ntmps17
    go_upto_region 12 with (first
      | (go_at_call 38
         refine BG.out.mono ?_
         rintro e w1 ⟨rfl, hx1, hk1⟩
         rw [HE.out]
         have X1 := Lib.hid hx1
         have K1 := Lib.hid (hk1.mono (fun i hi => by simp at hi; subst hi; exact .inl HIN.out) : Kept G w w1)
         have hlk := hx1.look x
         rw [SM.out.2.1, HG.out] at hlk
         simp only [Option.map_some] at hlk
         have hc := hx1.blk.cell
         have hl := hx1.blk.lt
         clear hx1 hk1)
      | (go_at_call 39
         refine (NM.out _).mono ?_
         rintro e wx ⟨rfl, rfl⟩
         rw [HNM.out])
      | (go_at_call 40
         refine (room_any X1.out OK1.out NL.out (some i) (fun j hj => by injection hj with hj; subst hj; exact hi) b.length (by omega)).mono ?_
         rintro e w2 ⟨rfl, hk2⟩
         rw [HRN.out]
         have X2 := Lib.hid (X1.out.go hk2)
         have K2 := Lib.hid (K1.out.trans hk2 (by simp))
         clear hk2 hlk hc hl))
    obtain ⟨A2, c2, _, hgG, hfb, hfo, hfr⟩ := X2.out.fs.get HF.out
    have FBK := Lib.hid hfb
    have FO := Lib.hid hfo
    have FR := Lib.hid hfr
    have RB := Lib.hid (HB.out.kept K2.out HBG.out)
    obtain ⟨g, hgg⟩ : ∃ g, fbA fb i = g := ⟨_, rfl⟩
    have HGG := Lib.hid hgg
    rw [hgg] at FBK hgG
    simp only [hgg]
    have hc := FBK.out.cell
    have hff := FBK.out.frozen
    have hl := FBK.out.lt
    clear hfb hfo hfr hgg
    go_wp2_with (first
      | (at_builtin
         refine wpList_app _ rfl (.tmp 42) (.tmp 43) 28 rfl elem_u8 (by rfl) FO.out (by rfl) RB.out.rd (by rw [u8s_len, Nat.mul_one]) (u8s_one _) (by have := FB.out; unfold maxLen; omega) (by have := FB.out; omega) ?_
         intro v3 w3 ho3 hk3 hr3
         obtain ⟨A3, m3, c3, rfl⟩ := Own.form' ho3
         have hb3 := FBK.out.kept hk3 (fun hm => FO.out.ne_blk FBK.out (by decide) hm)
         have B3 := Lib.hid hb3
         have hc3 := hb3.cell
         have hf3 := hb3.frozen
         have hl3 := hb3.lt
         have O3 := Lib.hid (show Own w3 5 1 (.slice A3 m3 c3) (f.b ++ b).length (u8s (f.b ++ b)) by
           rw [show u8s (f.b ++ b) = u8s f.b ++ u8s b by simp [u8s], List.length_append]; exact ho3)
         have K3 := Lib.hid hk3
         have R3 := Lib.hid hr3
         clear ho3 hk3 hr3 hb3 hc hff))
    go_ret
    refine ⟨by rw [HA.out]; rfl, ?_⟩
    rw [HA.out]
    have kE : Kept [g] w3 (w3.setCell ⟨g, 0, none⟩ (.slice A3 m3 c3)) := (Kept.refl _ _).setCell (.inl (by simp)) _
    have kA : Kept (g :: rowOf (.slice A2 f.b.length c2)) w2 (w3.setCell ⟨g, 0, none⟩ (.slice A3 m3 c3)) := (K3.out.mono (fun k hk => .inl (List.mem_cons_of_mem _ hk))).trans kE (fun k hk => .inl (by simp at hk; subst hk; exact List.mem_cons_self))
    have hX := X2.out.file (f' := ⟨f.b ++ b, f.sure⟩) HF.out (by rw [HGG.out]; exact FBK.out) FO.out (by rw [HGG.out]; exact kA) (by rw [HGG.out]; exact B3.out.set 0 _) (O3.out.kept kE (fun k hk hm => by simp at hm; subst hm; exact O3.out.ne_blk B3.out (by decide) hk)) R3.out
    refine ⟨fb, _, _, _, _, _, _, hX, K2.out.trans kA (fun k hk => .inl ?_), fun k hk => ?_⟩
    · rcases List.mem_cons.1 hk with rfl | hk
      · exact hgG
      · exact FR.out k hk
    · rcases List.mem_append.1 hk with hk | hk
      · rcases R3.out k hk with h3 | h3
        · exact .inl (FR.out k h3)
        · exact .inr (Nat.le_trans K2.out.size h3)
      · exact .inl hk
  | none =>
    have HG := Lib.hid hg
    have HRN := Lib.hid (show roomD D1 none b.length = true by rw [← hg]; exact HRM.out)
    have HLN := Lib.hid (show D1.files.length = D.files.length by rw [SM.out.1])
    have HA := Lib.hid (show appD D x b = (0, { newD D1 x with files := (D1.files ++ [(⟨[], 0⟩ : FlE)]).set D1.files.length (⟨[] ++ b, 0⟩ : FlE) }) by
      unfold appD
      rw [if_neg (by rw [hbe]; simp), if_neg (by rw [hnm]; simp), HD1.out, if_neg (by rw [hrm]; simp), hg]
      simp only
      unfold appF
      rw [← SM.out.1, List.getElem?_append_right (Nat.le_refl _), Nat.sub_self]
      rfl)
    have FB := Lib.hid (show b.length ≤ 1048576 by
      rw [hg] at hrm
      unfold roomD at hrm
      simp at hrm
      omega)
    clear h ok hb hbG hbe he hnm hrm hg
    go_enter Try.func17, Try.ntmps17
    go_upto_region 10 with (first
      | (go_at_call 38
         refine BG.out.mono ?_
         rintro e w1 ⟨rfl, hx1, hk1⟩
         rw [HE.out]
         have X1 := Lib.hid hx1
         have K1 := Lib.hid (hk1.mono (fun i hi => by simp at hi; subst hi; exact .inl HIN.out) : Kept G w w1)
         have hlk := hx1.look x
         rw [SM.out.2.1, HG.out] at hlk
         simp only [Option.map_none] at hlk
         have hc := hx1.blk.cell
         have hl := hx1.blk.lt
         clear hx1 hk1)
      | (go_at_call 39
         refine (NM.out _).mono ?_
         rintro e wx ⟨rfl, rfl⟩
         rw [HNM.out])
      | (go_at_call 40
         refine (room_any X1.out OK1.out NL.out none (fun j hj => by cases hj) b.length (by omega)).mono ?_
         rintro e w2 ⟨rfl, hk2⟩
         rw [HRN.out]
         have X2 := Lib.hid (X1.out.go hk2)
         have K2 := Lib.hid (K1.out.trans hk2 (by simp))
         clear hk2 hlk hc hl))
    have X3 := Lib.hid (X2.out.add OK1.out ((Kept.refl [] w2).alloc (.cells #[.slice none 0 0, .int .i64 0] 71)) (Blk.new w2 71 #[.slice none 0 0, .int .i64 0]))
    have K3 := Lib.hid (K2.out.trans ((Kept.refl [] w2).alloc (.cells #[.slice none 0 0, .int .i64 0] 71)) (by simp))
    have GL := Lib.hid (show fbA (fb ++ [w2.heap.size]) D1.files.length = w2.heap.size from fbA_last X2.out.fs.len)
    have HGW := Lib.hid (fun k (hk : k ∈ G) => X2.out.lt k hk)
    have CH : Hid (Calls Try.prog 41 #[.pointer (some ⟨p, 0, none⟩), .agg #[.int .i64 1, .string (strOf x), .string ⟨#[]⟩, .pointer (some ⟨w2.heap.size, 0, none⟩)]] (w2.alloc (.cells #[.slice none 0 0, .int .i64 0] 71)) fun e w4 => e = .returned (.tuple #[]) ∧ DkTo (w2.alloc (.cells #[.slice none 0 0, .int .i64 0] 71)) (w2.heap.size :: G) p (fb ++ [w2.heap.size]) (chgD { D1 with files := D1.files ++ [⟨[], 0⟩] } ⟨1, x, [], some D1.files.length⟩) w4) := Lib.hid (by
      have CH := change_any X3.out ⟨1, x, [], some D1.files.length⟩ (n := D1.files.length + 1) (.inl ⟨rfl, _, rfl, by omega⟩) CL.out
      unfold chC at CH
      simp only [Option.map_some, GL.out] at CH
      exact CH)
    go_upto_region 12 with (first
      | (go_at_call 41
         with_reducible refine CH.out.mono ?_
         rintro e w4 ⟨rfl, hto⟩
         have T4 := Lib.hid hto
         clear hto))
    obtain ⟨G4, bn4, bs4, A4, m4, c4, hx4, hk4, hg4⟩ := T4.out
    have X4 := Lib.hid hx4
    have G4S := Lib.hid hg4
    have K4 := Lib.hid (K3.out.trans hk4 (fun k hk => by
      rcases List.mem_cons.1 hk with rfl | hk
      · exact .inr K2.out.size
      · exact .inl hk))
    obtain ⟨z, HZ⟩ : ∃ z : Bs, Hid (z = []) := ⟨[], Lib.hid rfl⟩
    have HF : Hid ((chgD { D1 with files := D1.files ++ [⟨[], 0⟩] } ⟨1, x, [], some D1.files.length⟩).files[D1.files.length]? = some ⟨z, 0⟩) := Lib.hid (by
      rw [HZ.out]
      show (D1.files ++ [⟨[], 0⟩])[D1.files.length]? = _
      rw [List.getElem?_append_right (Nat.le_refl _), Nat.sub_self]; rfl)
    obtain ⟨A2, c2, _, hgG, hfb, hfo, hfr⟩ := X4.out.fs.get HF.out
    rw [GL.out] at hfb hgG
    have ZL := Lib.hid (show z.length = 0 by rw [HZ.out]; rfl)
    have FBK := Lib.hid hfb
    have FO := Lib.hid hfo
    have FR := Lib.hid hfr
    have RB := Lib.hid (HB.out.kept K4.out HBG.out)
    have hc := FBK.out.cell
    have hff := FBK.out.frozen
    have hl := FBK.out.lt
    clear hfb hfo hfr hx4 hk4 hg4
    go_wp2_with (first
      | (at_builtin
         refine wpList_app _ rfl (.tmp 42) (.tmp 43) 28 rfl elem_u8 (by rfl) FO.out (by rfl) RB.out.rd (by rw [u8s_len, Nat.mul_one]) (u8s_one _) (by have := FB.out; have := ZL.out; unfold maxLen; simp only; omega) (by have := FB.out; have := ZL.out; simp only; omega) ?_
         intro v5 w5 ho5 hk5 hr5
         obtain ⟨A5, m5, c5, rfl⟩ := Own.form' ho5
         have hb5 := FBK.out.kept hk5 (fun hm => FO.out.ne_blk FBK.out (by decide) hm)
         have B5 := Lib.hid hb5
         have hc5 := hb5.cell
         have hf5 := hb5.frozen
         have hl5 := hb5.lt
         have O5 := Lib.hid (show Own w5 5 1 (.slice A5 m5 c5) (z ++ b).length (u8s (z ++ b)) by
           rw [show u8s (z ++ b) = u8s z ++ u8s b by simp [u8s], List.length_append]; exact ho5)
         have K5 := Lib.hid hk5
         have R5 := Lib.hid hr5
         clear ho5 hk5 hr5 hb5 hc hff))
    go_ret
    refine ⟨by rw [HA.out]; rfl, ?_⟩
    rw [HA.out]
    have kE : Kept [w2.heap.size] w5 (w5.setCell ⟨w2.heap.size, 0, none⟩ (.slice A5 m5 c5)) := (Kept.refl _ _).setCell (.inl (by simp)) _
    have kA : Kept (w2.heap.size :: rowOf (.slice A2 z.length c2)) w4 (w5.setCell ⟨w2.heap.size, 0, none⟩ (.slice A5 m5 c5)) := (K5.out.mono (fun k hk => .inl (List.mem_cons_of_mem _ hk))).trans kE (fun k hk => .inl (by simp at hk; subst hk; exact List.mem_cons_self))
    have hX := X4.out.file (f' := ⟨z ++ b, 0⟩) HF.out (by rw [GL.out]; exact FBK.out) FO.out (by rw [GL.out]; exact kA) (by rw [GL.out]; exact B5.out.set 0 _) (O5.out.kept kE (fun k hk hm => by simp at hm; subst hm; exact O5.out.ne_blk B5.out (by decide) hk)) R5.out
    rw [HZ.out] at hX
    refine ⟨fb ++ [w2.heap.size], _, _, _, _, _, _, hX, K4.out.trans kA (fun k hk => ?_), fun k hk => ?_⟩
    · rcases List.mem_cons.1 hk with rfl | hk
      · exact .inr K2.out.size
      · rcases G4S.out k (FR.out k hk) with h1 | h1
        · rcases List.mem_cons.1 h1 with rfl | h1
          · exact .inr K2.out.size
          · exact .inl h1
        · exact .inr (Nat.le_trans K3.out.size h1)
    · have key : ∀ k, k ∈ G4 → k ∈ G ∨ w.heap.size ≤ k := fun k hk => by
        rcases G4S.out k hk with h1 | h1
        · rcases List.mem_cons.1 h1 with rfl | h1
          · exact .inr K2.out.size
          · exact .inl h1
        · exact .inr (Nat.le_trans K3.out.size h1)
      rcases List.mem_append.1 hk with hk | hk
      · rcases R5.out k hk with h3 | h3
        · exact key k (FR.out k h3)
        · exact .inr (Nat.le_trans K4.out.size h3)
      · exact key k hk
end Go.Proofs.Ythdjdfdefibepaa
