
/-
  The document's disk: Crash.
-/
import Derived.Test.YthdjdfdefibepaaRkK
namespace Go.Proofs.Ythdjdfdefibepaa
open Go.RowKit Go.ChangeShapes Go.WideShapes Go.ChangeAt Go.Deep Go.MapKept
set_option linter.unusedVariables false

def cutM1 (ps : Bs) (k : Nat) (f : FlE) : FlE := ⟨f.b.take (f.sure + pickM ps k % (f.b.length - f.sure + 1)), f.sure + pickM ps k % (f.b.length - f.sure + 1)⟩
def cutF (ps : Bs) : Nat → List (Bs × Nat) → List FlE → List FlE
  | _, [], fs => fs
  | k, q :: l, fs => cutF ps (k + 1) l (match fs[q.2]? with | some f => fs.set q.2 (cutM1 ps k f) | none => fs)
theorem cutF_cons (ps : Bs) (k : Nat) (q : Bs × Nat) (l : List (Bs × Nat)) (fs : List FlE) : cutF ps k (q :: l) fs = cutF ps (k + 1) l (match fs[q.2]? with | some f => fs.set q.2 (cutM1 ps k f) | none => fs) := rfl
def craS (M : RkD) (ps : Bs) : List (Bs × Nat) := (M.ch.take (pickM ps 0 % (M.ch.length + 1))).foldl turM M.sur
def craM (M : RkD) (ps : Bs) : RkD := { M with files := cutF ps 1 (craS M ps) M.files, now := craS M ps, sur := craS M ps, ch := [], fail := 0 }
theorem wiM_mem {l : List (Bs × Nat)} {x : Bs} {f : Nat} {q : Bs × Nat} (h : q ∈ wiM l x f) : q = (x, f) ∨ q ∈ delM l x := by
  unfold wiM at h
  simp only [List.mem_append, List.mem_singleton] at h
  rcases h with h | h | h
  · exact .inr (List.takeWhile_subset _ h)
  · exact .inl h
  · exact .inr (List.dropWhile_subset _ h)
theorem wiM_len (l : List (Bs × Nat)) (x : Bs) (f : Nat) : (wiM l x f).length = (delM l x).length + 1 := by
  unfold wiM
  have := congrArg List.length (List.takeWhile_append_dropWhile (p := fun q : Bs × Nat => decide (q.1 < x)) (l := delM l x))
  rw [List.length_append] at this
  simp only [List.length_append, List.length_singleton]
  omega
theorem turM_mem {l : List (Bs × Nat)} {c : McD} {q : Bs × Nat} (h : q ∈ turM l c) : q ∈ l ∨ q = (c.dst, c.f) := by
  unfold turM at h
  have key : ∀ {r : Bs × Nat}, r ∈ (if c.src = [] then l else delM l c.src) → r ∈ l := fun {r} hr => by
    split at hr
    · exact hr
    · exact (List.mem_filter.1 hr).1
  dsimp only at h
  split at h
  · exact .inl (key h)
  · rcases wiM_mem h with h1 | h1
    · exact .inr h1
    · exact .inl (key (List.mem_filter.1 h1).1)
theorem turM_len (l : List (Bs × Nat)) (c : McD) : (turM l c).length ≤ l.length + 1 := by
  unfold turM
  have key : (if c.src = [] then l else delM l c.src).length ≤ l.length := by
    split
    · exact Nat.le_refl _
    · exact delN_len _ _
  dsimp only
  split
  · omega
  · rw [wiM_len]
    have := delN_len (if c.src = [] then l else delM l c.src) c.dst
    omega
theorem cutM1_ok {ps : Bs} {k : Nat} {f : FlE} (h : f.sure ≤ f.b.length ∧ f.b.length ≤ 1048576) : (cutM1 ps k f).sure ≤ (cutM1 ps k f).b.length ∧ (cutM1 ps k f).b.length ≤ 1048576 := by
  have hm := Nat.mod_lt (pickM ps k) (show 0 < f.b.length - f.sure + 1 by omega)
  unfold cutM1
  simp only [List.length_take]
  omega
section
variable {w w' : World} {p : Nat} {H : List Nat} {vs : List FvD} {M : RkD} {A1 A2 A3 A4 : Option Addr} {c1 c2 c3 c4 : Nat}
set_option maxHeartbeats 12800000 in
theorem rCrash_any (h : RkX w p H vs M A1 c1 A2 c2 A3 c3 A4 c4) (ok : OkM M) {ps : Bs} {Gb : List Nat} {B : Option Addr} {n d : Nat} (hb : RdB w Gb (.slice B n d) ps) (hbp : p ∉ Gb) :
    Calls Try.prog 54 #[.pointer (some ⟨p, 0, none⟩), .slice B n d] w fun e w' => e = .returned (.tuple #[]) ∧ RkTo w p H (craM M ps) w' := by
  have HX := Lib.hid h
  have OK := Lib.hid ok
  have HB := Lib.hid hb
  have HBP := Lib.hid hbp
  obtain ⟨nc, hnc⟩ : ∃ nc, M.ch.length = nc := ⟨_, rfl⟩
  have NC := Lib.hid hnc
  have ncb := ok.nl.2.2.1
  rw [hnc] at ncb
  obtain ⟨P, hP⟩ : ∃ P, pickM ps 0 = P := ⟨_, rfl⟩
  have HP := Lib.hid hP
  obtain ⟨K, hK⟩ : ∃ K, P % (nc + 1) = K := ⟨_, rfl⟩
  have hKl : K ≤ nc := by have := Nat.mod_lt P (show 0 < nc + 1 by omega); omega
  have HK := Lib.hid (show craS M ps = (M.ch.take K).foldl turM M.sur by unfold craS; rw [hP, hnc, hK])
  have hrem : (P : Int).tmod ((nc : Int) + 1) = (K : Int) := by rw [← hK]; exact rfl
  have iw0 : IntKind.i64.wrap ((nc : Int) + 1) = (nc : Int) + 1 := IntWalk.i64_in _ (by omega)
  have iz0 : ((nc : Int) + 1 == 0) = false := by simp; omega
  have iz1 : ¬ ((nc : Int) + 1 = 0) := by omega
  have CH := Lib.hid (arr_take (k := K) (hnc ▸ h.cv : McArr w H (.slice A4 nc c4) M.ch) hKl)
  have c4b := (arr_lens h.cv).2
  obtain ⟨c4a, c4c, _⟩ := c4b
  unfold maxLen at c4c
  rw [hnc] at c4a
  have B0 := Lib.hid (hnc ▸ h.blk : Blk w p 87 #[.slice A1 M.files.length c1, .slice A2 M.now.length c2, .slice A3 M.sur.length c3, .slice A4 nc c4, .int .i64 M.quota, .int .i64 M.n, .int .i64 M.fail])
  have hx0 := B0.out.cell
  have hl0 := B0.out.lt
  have k0 : (0 : Int) ≤ (K : Int) := by omega
  have k1 : (K : Int) ≤ (nc : Int) := by omega
  have k2 : (K : Int) ≤ (c4 : Int) := by omega
  clear h ok hb hbp hP hK hnc
  go_enter Try.func54, Try.ntmps54
  go_upto_region 0 with fail
  refine wp_region_held_drew (S := (fun w' => ∀ j, w'.cell? ⟨p, j, none⟩ = (#[.slice A1 M.files.length c1, .slice A2 M.now.length c2, .slice A3 M.sur.length c3, .slice A4 nc c4, .int .i64 M.quota, .int .i64 M.n, .int .i64 M.fail] : Array Value)[j]?)) (by kernel_rfl) (fun j => hx0 j) (fun hHeld => ?_)
  refine wpAnyH_take (i := 0) (oi := ⟨some 10, _, _, _, _, _⟩) (v := ?vh1_1) rfl (by kernel_rfl) (by kernel_rfl) (by kernel_rfl) (fun _ _ _ h => h) (Or.inl ⟨by kernel_rfl, ?hyh1_1⟩) (by assumption) ?resth1_1
  case hyh1_1 => (intro w99 hSw; (try dsimp only at hSw); (try go_simp); (try with_reducible rfl); (try omega))
  simp only [Act.put, List.setIfInBounds_toArray, List.set_cons_zero, List.set_cons_succ]
  refine wpAnyH_take (i := 1) (oi := ⟨some 11, _, _, _, _, _⟩) (v := ?vh1_2) rfl (by kernel_rfl) (by kernel_rfl) (by kernel_rfl) (fun _ _ _ h => h) (Or.inl ⟨by kernel_rfl, ?hyh1_2⟩) (by assumption) ?resth1_2
  case hyh1_2 => (intro w99 hSw; (try dsimp only at hSw); (try go_simp); (try with_reducible rfl); (try omega))
  simp only [Act.put, List.setIfInBounds_toArray, List.set_cons_zero, List.set_cons_succ]
  refine wpAnyH_take (i := 2) (oi := ⟨some 12, _, _, _, _, _⟩) (v := ?vh1_3) rfl (by kernel_rfl) (by kernel_rfl) (by kernel_rfl) (fun _ _ _ h => h) (Or.inl ⟨by kernel_rfl, ?hyh1_3⟩) (by assumption) ?resth1_3
  case hyh1_3 => (intro w99 hSw; (try dsimp only at hSw); (try go_simp); (try with_reducible rfl); (try omega))
  simp only [Act.put, List.setIfInBounds_toArray, List.set_cons_zero, List.set_cons_succ]
  refine wpAnyH_take (i := 3) (oi := ⟨some 13, _, _, _, _, _⟩) (v := ?vh1_4) rfl (by kernel_rfl) (by kernel_rfl) (by kernel_rfl) (fun _ _ _ h => h) (Or.inl ⟨by kernel_rfl, ?hyh1_4⟩) (by assumption) ?resth1_4
  case hyh1_4 => (intro w99 hSw; (try dsimp only at hSw); (try go_simp); (try with_reducible rfl); (try omega))
  simp only [Act.put, List.setIfInBounds_toArray, List.set_cons_zero, List.set_cons_succ]
  refine wpAnyH_take (i := 4) (oi := ⟨some 14, _, _, _, _, _⟩) (v := ?vh1_5) rfl (by kernel_rfl) (by kernel_rfl) (by kernel_rfl) (fun _ _ _ h => h) (Or.inl ⟨by kernel_rfl, ?hyh1_5⟩) (by assumption) ?resth1_5
  case hyh1_5 => (intro w99 hSw; (try dsimp only at hSw); (try go_simp); (try with_reducible rfl); (try omega))
  simp only [Act.put, List.setIfInBounds_toArray, List.set_cons_zero, List.set_cons_succ]
  refine wpAnyH_take (i := 6) (oi := ⟨some 16, _, _, _, _, _⟩) (v := ?vh1_6) rfl (by kernel_rfl) (by kernel_rfl) (by kernel_rfl) (fun _ _ _ h => h) (Or.inl ⟨by kernel_rfl, ?hyh1_6⟩) (by assumption) ?resth1_6
  case hyh1_6 => (intro w99 hSw; (try dsimp only at hSw); (try go_simp); (try with_reducible rfl); (try omega))
  simp only [Act.put, List.setIfInBounds_toArray, List.set_cons_zero, List.set_cons_succ]
  refine wpAnyH_take (i := 7) (oi := ⟨some 17, _, _, _, _, _⟩) (v := ?vh1_7) rfl (by kernel_rfl) (by kernel_rfl) (by kernel_rfl) (fun _ _ _ h => h) (Or.inl ⟨by kernel_rfl, ?hyh1_7⟩) (by assumption) ?resth1_7
  case hyh1_7 => (intro w99 hSw; (try dsimp only at hSw); (try go_simp); (try with_reducible rfl); (try omega))
  simp only [Act.put, List.setIfInBounds_toArray, List.set_cons_zero, List.set_cons_succ]
  refine wpAnyH_take (i := 8) (oi := ⟨some 18, _, _, _, _, _⟩) (v := ?vh1_8) rfl (by kernel_rfl) (by kernel_rfl) (by kernel_rfl) (fun _ _ _ h => h) (Or.inl ⟨by kernel_rfl, ?hyh1_8⟩) (by assumption) ?resth1_8
  case hyh1_8 => (intro w99 hSw; (try dsimp only at hSw); (try go_simp); (try with_reducible rfl); (try omega))
  simp only [Act.put, List.setIfInBounds_toArray, List.set_cons_zero, List.set_cons_succ]
  refine wpAnyH_take (i := 9) (oi := ⟨some 19, _, _, _, _, _⟩) (v := ?vh1_9) rfl (by kernel_rfl) (by kernel_rfl) (by kernel_rfl) (fun _ _ _ h => h) (Or.inl ⟨by kernel_rfl, ?hyh1_9⟩) (by assumption) ?resth1_9
  case hyh1_9 => (intro w99 hSw; (try dsimp only at hSw); (try go_simp); (try with_reducible rfl); (try omega))
  simp only [Act.put, List.setIfInBounds_toArray, List.set_cons_zero, List.set_cons_succ]
  refine wpAnyH_take (i := 10) (oi := ⟨some 20, _, _, _, _, _⟩) (v := ?vh1_10) rfl (by kernel_rfl) (by kernel_rfl) (by kernel_rfl) (fun _ _ _ h => h) (Or.inl ⟨by kernel_rfl, ?hyh1_10⟩) (by assumption) ?resth1_10
  case hyh1_10 => (intro w99 hSw; (try dsimp only at hSw); (try go_simp); (try with_reducible rfl); (try omega))
  simp only [Act.put, List.setIfInBounds_toArray, List.set_cons_zero, List.set_cons_succ]
  refine wpAnyH_take (i := 11) (oi := ⟨some 21, _, _, _, _, _⟩) (v := ?vh1_11) rfl (by kernel_rfl) (by kernel_rfl) (by kernel_rfl) (fun _ _ _ h => h) (Or.inl ⟨by kernel_rfl, ?hyh1_11⟩) (by assumption) ?resth1_11
  case hyh1_11 => (intro w99 hSw; (try dsimp only at hSw); (try go_simp); (try with_reducible rfl); (try omega))
  simp only [Act.put, List.setIfInBounds_toArray, List.set_cons_zero, List.set_cons_succ]
  refine wpAnyH_take (i := 15) (oi := ⟨some 25, _, _, _, _, _⟩) (v := ?vh1_12) rfl (by kernel_rfl) (by kernel_rfl) (by kernel_rfl) (fun _ _ _ h => h) (Or.inl ⟨by kernel_rfl, ?hyh1_12⟩) (by assumption) ?resth1_12
  case hyh1_12 => (intro w99 hSw; (try dsimp only at hSw); (try go_simp); (try with_reducible rfl); (try omega))
  simp only [Act.put, List.setIfInBounds_toArray, List.set_cons_zero, List.set_cons_succ]
  refine wpAnyH_ready (rs := [5]) (by kernel_rfl) (by simp) ?_
  refine AllReadyH.cons (o := ⟨some 15, _, _, _, _, _⟩) rfl (fun KQ hKQ => ?w5h1_13) AllReadyH.nil
  case w5h1_13 =>
    go_simp
    go_at_call 67
    have hz := rpick_any w.drew (HB.out.kept ((Kept.refl [] w).drew) (by simp)) 0
    rw [HP.out, show (((0 : Nat)) : Int) = 0 from rfl] at hz
    with_reducible refine hz.mono ?_
    clear hz
    rintro e w1 ⟨rfl, rfl⟩
    go_wp2_with fail
    refine hKQ.out _ _ (fun j => hx0 j) (fun hHeld9 => ?_)
    clear hKQ KQ hHeld
    have hHeld := hHeld9
    clear hHeld9
    try simp only [Act.put, List.setIfInBounds_toArray, List.set_cons_zero, List.set_cons_succ]
    refine wpAnyH_take (i := 12) (oi := ⟨some 22, _, _, _, _, _⟩) (v := .int .i64 (K : Nat)) rfl (by kernel_rfl) (by kernel_rfl) (by kernel_rfl) (fun _ _ _ h => h) (Or.inl ⟨by kernel_rfl, ?hyh1_14⟩) (by assumption) ?resth1_14
    case hyh1_14 => (intro w99 hSw; (try dsimp only at hSw); (try go_simp); (try with_reducible rfl); (try omega))
    simp only [Act.put, List.setIfInBounds_toArray, List.set_cons_zero, List.set_cons_succ]
    refine wpAnyH_take (i := 13) (oi := ⟨some 23, _, _, _, _, _⟩) (v := .slice A4 K c4) rfl (by kernel_rfl) (by kernel_rfl) (by kernel_rfl) (fun _ _ _ h => h) (Or.inl ⟨by kernel_rfl, ?hyh1_15⟩) (by assumption) ?resth1_15
    case hyh1_15 => (intro w99 hSw; (try dsimp only at hSw); (try go_simp); (try with_reducible rfl); (try omega))
    simp only [Act.put, List.setIfInBounds_toArray, List.set_cons_zero, List.set_cons_succ]
    refine wpAnyH_take (i := 14) (oi := ⟨some 24, _, _, _, _, _⟩) (v := ?vh1_16) rfl (by kernel_rfl) (by kernel_rfl) (by kernel_rfl) (fun _ _ _ h => h) (Or.inl ⟨by kernel_rfl, ?hyh1_16⟩) (by assumption) ?resth1_16
    case hyh1_16 => (intro w99 hSw; (try dsimp only at hSw); (try go_simp); (try with_reducible rfl); (try omega))
    simp only [Act.put, List.setIfInBounds_toArray, List.set_cons_zero, List.set_cons_succ]
    refine wpAnyH_done (by kernel_rfl) ?_ _
    clear hHeld
    have KD := Lib.hid ((Kept.refl [] w).drew)
    go_wp2
    go_loopg [25] K (fun gg i wr => ∃ (j : Nat) (s : List (Bs × Nat)), j ≤ K ∧ gg = K - j ∧ i = .int .i64 (j : Nat) ∧ ((M.ch.take K).drop j).foldl turM s = craS M ps ∧ (∀ q ∈ s, q.2 < M.files.length) ∧ s.length ≤ 400 + j ∧ RkTo w p H { M with sur := s } wr)
    case atStart => exact ⟨0, M.sur, by omega, by omega, rfl, by rw [List.drop_zero]; exact HK.out.symm, OK.out.sur, by have := OK.out.nl.2.1; omega, (HX.out.go KD.out).to (KD.out.mono (by simp))⟩
    case round =>
      obtain ⟨j, s, hj, rfl, rfl, hfold, hidx, hsl, hto⟩ := hrel
      have HF := Lib.hid hfold
      have HI := Lib.hid hidx
      have HSL := Lib.hid hsl
      have TO := Lib.hid hto
      clear hfold hidx hsl hto hx0
      by_cases hlt : j < K
      · obtain ⟨q, hq⟩ : ∃ q, (M.ch.take K)[j]? = some q := ⟨_, List.getElem?_eq_getElem (by rw [List.length_take, NC.out]; omega)⟩
        have HQM := Lib.hid (List.mem_of_mem_take (List.mem_of_getElem? hq))
        have HF2 := Lib.hid (show ((M.ch.take K).drop (j + 1)).foldl turM (turM s q) = craS M ps by
          obtain ⟨hl, e⟩ := List.getElem?_eq_some_iff.1 hq
          have h1 := HF.out
          rw [List.drop_eq_getElem_cons hl, e, List.foldl_cons] at h1
          exact h1)
        obtain ⟨HJ, vsJ, E1, d1, E2, d2, E3, d3, E4, d4, xJ, kJ, hhJ⟩ := TO.out
        obtain ⟨MJ, hMJ⟩ : ∃ MJ, ({ M with sur := s } : RkD) = MJ := ⟨_, rfl⟩
        rw [hMJ] at xJ
        have HMJ := Lib.hid hMJ
        have XJ := Lib.hid xJ
        have KJ := Lib.hid kJ
        have HHJ := Lib.hid hhJ
        have BJ := Lib.hid (show Blk wr p 87 #[.slice E1 MJ.files.length d1, .slice E2 MJ.now.length d2, .slice E3 MJ.sur.length d3, .slice E4 MJ.ch.length d4, .int .i64 MJ.quota, .int .i64 MJ.n, .int .i64 MJ.fail] from xJ.blk)
        have hxJ := BJ.out.cell
        have hfJ := BJ.out.frozen
        have hlJ := BJ.out.lt
        clear xJ kJ hhJ hMJ
        obtain ⟨g, o, hA4, hg, hgG, e0, e1, e2⟩ := McArr.at (McArr.kept CH.out KJ.out HX.out.hd) hq
        subst hA4
        have i0 : (0 : Int) ≤ (j : Int) := by omega
        have i1 : (j : Int) < (K : Int) := by omega
        have iw : IntKind.i64.wrap ((j : Int) + 1) = (j : Int) + 1 := IntWalk.i64_in _ (by omega)
        have LSJ := Lib.hid (show MJ.sur.length ≤ 1000 by rw [← HMJ.out]; have := HSL.out; simp only; omega)
        clear hq
        go_upto_region 3 with (first
          | (((with_reducible show wpList _ _ _ ({ dst := none, op := Op.store 99 (.tmp 5) (.tmp 28), type := _, pos := _, after := _, guard := _ } :: _) _ _); refine wpList_put (t := 99) rfl 99 (.tmp 5) (.tmp 28) rfl _ (by rfl) (by rfl) (by (repeat (first | (apply Blk.new'; simp; done) | apply Blk.alloc | apply Blk.drew))) (by rfl) (by kernel_rfl) (by simp [Value.oneCell']) ?_; intro w5 hb5 hk5; have Hb5 := Lib.hid hb5; have Hk5 := Lib.hid hk5; clear hb5 hk5)
             have K5 := Lib.hid (((Kept.refl [] wr).alloc _).trans Hk5.out (fun i hi => .inr (by simp at hi; omega)) : Kept [] wr w5)
             have hx5 := Hb5.out.cell
             have hxp5 := (BJ.out.kept K5.out (by simp)).cell))
        have HG9 := Lib.hid (show ∀ k ∈ HJ, k < w5.drew.heap.size from fun k hk => Nat.lt_of_lt_of_le (XJ.out.lt k hk) K5.out.size)
        have hpw : p < wr.heap.size := hlJ
        refine wp_region_held_drew (S := (fun w' => ∀ i, w'.cell? ⟨wr.heap.size, i, none⟩ = (#[.string (strOf q.src), .string (strOf q.dst), .int .i64 (q.f : Nat)] : Array Value)[i]?)) (by kernel_rfl) (fun i => hx5 i) (fun hHeld => ?_)
        refine wpAnyH_take (i := 0) (oi := ⟨some 29, _, _, _, _, _⟩) (v := ?vh2_1) rfl (by kernel_rfl) (by kernel_rfl) (by kernel_rfl) (fun _ _ _ h => h) (Or.inl ⟨by kernel_rfl, ?hyh2_1⟩) (by assumption) ?resth2_1
        case hyh2_1 => (intro w99 hSw; (try dsimp only at hSw); (try go_simp); (try with_reducible rfl); (try omega))
        simp only [Act.put, List.setIfInBounds_toArray, List.set_cons_zero, List.set_cons_succ]
        refine wpAnyH_take (i := 1) (oi := ⟨some 30, _, _, _, _, _⟩) (v := ?vh2_2) rfl (by kernel_rfl) (by kernel_rfl) (by kernel_rfl) (fun _ _ _ h => h) (Or.inl ⟨by kernel_rfl, ?hyh2_2⟩) (by assumption) ?resth2_2
        case hyh2_2 => (intro w99 hSw; (try dsimp only at hSw); (try go_simp); (try with_reducible rfl); (try omega))
        simp only [Act.put, List.setIfInBounds_toArray, List.set_cons_zero, List.set_cons_succ]
        refine wpAnyH_take (i := 2) (oi := ⟨some 31, _, _, _, _, _⟩) (v := ?vh2_3) rfl (by kernel_rfl) (by kernel_rfl) (by kernel_rfl) (fun _ _ _ h => h) (Or.inl ⟨by kernel_rfl, ?hyh2_3⟩) (by assumption) ?resth2_3
        case hyh2_3 => (intro w99 hSw; (try dsimp only at hSw); (try go_simp); (try with_reducible rfl); (try omega))
        simp only [Act.put, List.setIfInBounds_toArray, List.set_cons_zero, List.set_cons_succ]
        refine wpAnyH_take (i := 3) (oi := ⟨some 32, _, _, _, _, _⟩) (v := ?vh2_4) rfl (by kernel_rfl) (by kernel_rfl) (by kernel_rfl) (fun _ _ _ h => h) (Or.inl ⟨by kernel_rfl, ?hyh2_4⟩) (by assumption) ?resth2_4
        case hyh2_4 => (intro w99 hSw; (try dsimp only at hSw); (try go_simp); (try with_reducible rfl); (try omega))
        simp only [Act.put, List.setIfInBounds_toArray, List.set_cons_zero, List.set_cons_succ]
        refine wpAnyH_take (i := 5) (oi := ⟨some 34, _, _, _, _, _⟩) (v := ?vh2_5) rfl (by kernel_rfl) (by kernel_rfl) (by kernel_rfl) (fun _ _ _ h => h) (Or.inl ⟨by kernel_rfl, ?hyh2_5⟩) (by assumption) ?resth2_5
        case hyh2_5 => (intro w99 hSw; (try dsimp only at hSw); (try go_simp); (try with_reducible rfl); (try omega))
        simp only [Act.put, List.setIfInBounds_toArray, List.set_cons_zero, List.set_cons_succ]
        refine wpAnyH_ready (rs := [4]) (by kernel_rfl) (by simp) ?_
        refine AllReadyH.cons (o := ⟨some 33, _, _, _, _, _⟩) rfl (fun KQ hKQ => ?w4h2_6) AllReadyH.nil
        case w4h2_6 =>
          go_simp
          refine hKQ.out _ _ (fun i => hx5 i) (fun hHeld9 => ?_)
          clear hKQ KQ hHeld
          have hHeld := hHeld9
          clear hHeld9
          try simp only [Act.put, List.setIfInBounds_toArray, List.set_cons_zero, List.set_cons_succ]
          refine wpAnyH_ready (rs := [6]) (by kernel_rfl) (by simp) ?_
          refine AllReadyH.cons (o := ⟨some 35, _, _, _, _, _⟩) rfl (fun KQ hKQ => ?w6h2_7) AllReadyH.nil
          case w6h2_7 =>
            go_simp
            go_at_call 68
            with_reducible refine (rturn_any w5.drew ((XJ.out.go K5.out).sr.kept ((Kept.refl [] w5).drew) (by simp)) HG9.out q LSJ.out).mono ?_
            rintro e w6 ⟨A6, m6, c6, G6, rfl, ha6, hg6, hk6⟩
            have K6 := Lib.hid (Kept.trans ((Kept.refl [] w5).drew) hk6 (by simp))
            have NA6 := Lib.hid ha6
            have GA6 := Lib.hid hg6
            have B6 := Lib.hid ((BJ.out.kept K5.out (by simp)).kept K6.out (by simp))
            have Q6 := Lib.hid (Hb5.out.kept K6.out (by simp))
            have LL6 := Lib.hid (arr_lens ha6).1
            have hx6 := B6.out.cell
            have hf6 := B6.out.frozen
            have hl6 := B6.out.lt
            clear ha6 hg6 hk6 hxJ hfJ hlJ
            go_wp2_with fail
            refine hKQ.out _ _ (fun i => Q6.out.cell i) (fun hHeld9 => ?_)
            clear hKQ KQ hHeld
            have hHeld := hHeld9
            clear hHeld9
            try simp only [Act.put, List.setIfInBounds_toArray, List.set_cons_zero, List.set_cons_succ]
            refine wpAnyH_take (i := 7) (oi := ⟨some 36, _, _, _, _, _⟩) (v := ?vh2_8) rfl (by kernel_rfl) (by kernel_rfl) (by kernel_rfl) (fun _ _ _ h => h) (Or.inl ⟨by kernel_rfl, ?hyh2_8⟩) (by assumption) ?resth2_8
            case hyh2_8 => (intro w99 hSw; (try dsimp only at hSw); (try go_simp); (try with_reducible rfl); (try omega))
            simp only [Act.put, List.setIfInBounds_toArray, List.set_cons_zero, List.set_cons_succ]
            refine wpAnyH_take (i := 8) (oi := ⟨some 37, _, _, _, _, _⟩) (v := ?vh2_9) rfl (by kernel_rfl) (by kernel_rfl) (by kernel_rfl) (fun _ _ _ h => h) (Or.inl ⟨by kernel_rfl, ?hyh2_9⟩) (by assumption) ?resth2_9
            case hyh2_9 => (intro w99 hSw; (try dsimp only at hSw); (try go_simp); (try with_reducible rfl); (try omega))
            simp only [Act.put, List.setIfInBounds_toArray, List.set_cons_zero, List.set_cons_succ]
            refine wpAnyH_ready (rs := [9]) (by kernel_rfl) (by simp) ?_
            refine AllReadyH.cons (o := ⟨none, _, _, _, _, _⟩) rfl (fun KQ hKQ => ?w9h2_10) AllReadyH.nil
            case w9h2_10 =>
              go_simp
              refine hKQ.out _ _ (fun i => (Q6.out.far (p := ⟨p, 2, none⟩) (by show wr.heap.size ≠ p; omega) _).cell i) (fun hHeld9 => ?_)
              clear hKQ KQ hHeld
              have hHeld := hHeld9
              clear hHeld9
              try simp only [Act.put, List.setIfInBounds_toArray, List.set_cons_zero, List.set_cons_succ]
              refine wpAnyH_done (by kernel_rfl) ?_ _
              clear hHeld
              have wz : Blk (w6.setCell ⟨p, 2, none⟩ (.slice A6 m6 c6)) p 87 #[.slice E1 MJ.files.length d1, .slice E2 MJ.now.length d2, .slice A6 m6 c6, .slice E4 MJ.ch.length d4, .int .i64 MJ.quota, .int .i64 MJ.n, .int .i64 MJ.fail] := B6.out.set 2 _
              have kz := (Kept.refl [p] w6).setCell (p := ⟨p, 2, none⟩) (.inl (by simp)) (.slice A6 m6 c6)
              have kall : Kept [p] wr _ := ((K5.out.trans K6.out (by simp)).mono (by simp)).trans kz (fun i hi => .inl hi)
              have hd := XJ.out.hd
              have hs6 : m6 = (turM MJ.sur q).length := LL6.out.symm
              subst hs6
              have hw5 : wr.heap.size ≤ w5.drew.heap.size := K5.out.size
              have T6 := Lib.hid (show RkTo w p H { MJ with sur := turM MJ.sur q } _ from RkTo.from (RkTo.mk (M' := { MJ with sur := turM MJ.sur q }) (G1 := HJ) (G2 := HJ) (G3 := G6) (G4 := HJ) (G5 := HJ) XJ.out.blk.lt XJ.out.pn kall wz (XJ.out.fv.kept kall hd) (XJ.out.nw.kept kall hd) (NmArr.kept NA6.out kz (fun k hk hm => by
                  simp at hm
                  subst hm
                  rcases (GA6.out k hk).1 with h1 | h1
                  · exact XJ.out.pn h1
                  · omega)) (XJ.out.cv.kept kall hd) (XJ.out.fb.kept kall hd) (XJ.out.newG kall) (XJ.out.newG kall) (fun k hk => ⟨(GA6.out k hk).1.imp id (fun h => Nat.le_trans hw5 h), Nat.lt_of_lt_of_le (GA6.out k hk).2 kz.size⟩) (XJ.out.newG kall) (XJ.out.newG kall)) KJ.out HHJ.out)
              clear wz kz kall hd hw5
              go_wp2
              go_roundg (K - (j + 1))
              case measure => omega
              case rel => exact ⟨j + 1, turM s q, by omega, rfl, by go_num, HF2.out, fun r hr => by
                rcases turM_mem hr with h1 | h1
                · exact HI.out r h1
                · rw [h1]; exact OK.out.ch q HQM.out, by have h1 := turM_len s q; have h2 := HSL.out; omega, by have h1 := T6.out; have h2 : ({ MJ with sur := turM MJ.sur q } : RkD) = { M with sur := turM s q } := (by rw [← HMJ.out]); rw [h2] at h1; exact h1⟩
      · obtain rfl : j = K := by omega
        have i1 : ¬ (j : Int) < (j : Int) := by omega
        have HS := Lib.hid (show s = craS M ps by
          have h1 := HF.out
          rw [List.drop_of_length_le (by rw [List.length_take]; exact Nat.min_le_left _ _)] at h1
          exact h1)
        obtain ⟨HJ, vsJ, E1, d1, E2, d2, E3, d3, E4, d4, xJ, kJ, hhJ⟩ := TO.out
        obtain ⟨MJ, hMJ⟩ : ∃ MJ, ({ M with sur := s } : RkD) = MJ := ⟨_, rfl⟩
        rw [hMJ] at xJ
        have HMJ := Lib.hid hMJ
        have XJ := Lib.hid xJ
        have KJ := Lib.hid kJ
        have HHJ := Lib.hid hhJ
        have BJ := Lib.hid (show Blk wr p 87 #[.slice E1 MJ.files.length d1, .slice E2 MJ.now.length d2, .slice E3 MJ.sur.length d3, .slice E4 MJ.ch.length d4, .int .i64 MJ.quota, .int .i64 MJ.n, .int .i64 MJ.fail] from xJ.blk)
        have hxJ := BJ.out.cell
        have hfJ := BJ.out.frozen
        have hlJ := BJ.out.lt
        clear xJ kJ hhJ hMJ
        have HJS := Lib.hid (show MJ.sur = s by rw [← HMJ.out])
        go_upto_region 6 with fail
        have wz : Blk (((wr.setCell ⟨p, 1, none⟩ (.slice E3 MJ.sur.length d3)).setCell ⟨p, 3, none⟩ (.slice none 0 0)).setCell ⟨p, 6, none⟩ (.int .i64 0)) p 87 #[.slice E1 MJ.files.length d1, .slice E3 MJ.sur.length d3, .slice E3 MJ.sur.length d3, .slice none 0 0, .int .i64 MJ.quota, .int .i64 MJ.n, .int .i64 0] := ((BJ.out.set 1 _).set 3 _).set 6 _
        have kz := (((Kept.refl [p] wr).setCell (p := ⟨p, 1, none⟩) (.inl (by simp)) (.slice E3 MJ.sur.length d3)).setCell (p := ⟨p, 3, none⟩) (.inl (by simp)) (.slice none 0 0)).setCell (p := ⟨p, 6, none⟩) (.inl (by simp)) (.int .i64 0)
        have hd := XJ.out.hd
        have X2 := Lib.hid (show RkX _ p HJ vsJ { MJ with now := MJ.sur, ch := [], fail := 0 } E1 d1 E3 d3 E3 d3 none 0 from ⟨wz, XJ.out.fv.kept kz hd, XJ.out.sr.kept kz hd, XJ.out.sr.kept kz hd, arr_none _ _ _ _ 0 rfl, XJ.out.fb.kept kz hd, XJ.out.pn, fun k hk => Nat.lt_of_lt_of_le (XJ.out.lt k hk) kz.size⟩)
        have K2 := Lib.hid (KJ.out.trans kz (fun i hi => .inl hi))
        clear hxJ hfJ hlJ wz kz hd
        generalize ((wr.setCell ⟨p, 1, none⟩ (.slice E3 MJ.sur.length d3)).setCell ⟨p, 3, none⟩ (.slice none 0 0)).setCell ⟨p, 6, none⟩ (.int .i64 0) = w2 at *
        obtain ⟨S, hS⟩ : ∃ S, MJ.sur.length = S := ⟨_, rfl⟩
        have HSS := Lib.hid (show s.length = S by rw [← HJS.out]; exact hS)
        have Sb : S ≤ 900 := by have h1 := HSL.out; have h2 := OK.out.nl.2.2.1; have h3 := NC.out; have h4 := HSS.out; omega
        have NM := Lib.hid (show NmArr w2 HJ (.slice E3 S d3) s by have h1 := X2.out.nw; rw [HJS.out] at h1; rw [← HSS.out]; exact h1)
        have FS := Lib.hid (show MJ.files = M.files by rw [← HMJ.out])
        have hx2 : ∀ j, w2.cell? ⟨p, j, none⟩ = (#[.slice E1 MJ.files.length d1, .slice E3 S d3, .slice E3 S d3, .slice none 0 0, .int .i64 MJ.quota, .int .i64 MJ.n, .int .i64 0] : Array Value)[j]? := by have h1 := X2.out.blk.cell; rw [← hS]; exact h1
        have hl2 := X2.out.blk.lt
        have d3b := (arr_lens NM.out).2
        obtain ⟨d3a, d3c, _⟩ := d3b
        unfold maxLen at d3c
        clear hS
        go_wp2
        go_loopg [57] S (fun gg i wr => ∃ (j : Nat) (fs : List FlE), j ≤ S ∧ gg = S - j ∧ i = .int .i64 (j : Nat) ∧ cutF ps (j + 1) (s.drop j) fs = cutF ps 1 s M.files ∧ fs.length = M.files.length ∧ (∀ f ∈ fs, f.sure ≤ f.b.length ∧ f.b.length ≤ 1048576) ∧ RkTo w2 p HJ { MJ with files := fs, now := MJ.sur, ch := [], fail := 0 } wr)
        case atStart => exact ⟨0, M.files, by omega, by omega, rfl, by rw [List.drop_zero], rfl, OK.out.sure, by have h1 := X2.out.to (Kept.refl [p] w2); have h2 := FS.out; rw [← h2]; exact h1⟩
        case round =>
          obtain ⟨j, fs, hj, rfl, rfl, hcut, hfl, hok, hto⟩ := hrel
          have HC := Lib.hid hcut
          have HFL := Lib.hid hfl
          have HOK := Lib.hid hok
          have TR := Lib.hid hto
          clear hcut hfl hok hto hx2 hl2
          by_cases hlt : j < S
          · obtain ⟨q, hq⟩ : ∃ q, s[j]? = some q := ⟨_, List.getElem?_eq_getElem (by rw [HSS.out]; exact hlt)⟩
            obtain ⟨x, fi⟩ := q
            have hfi : fi < fs.length := by rw [HFL.out]; exact HI.out _ (List.mem_of_getElem? hq)
            obtain ⟨f, hf⟩ : ∃ f, fs[fi]? = some f := ⟨_, List.getElem?_eq_getElem hfi⟩
            have HC2 := Lib.hid (show cutF ps (j + 1 + 1) (s.drop (j + 1)) (fs.set fi (cutM1 ps (j + 1) f)) = cutF ps 1 s M.files by
              obtain ⟨hl, e⟩ := List.getElem?_eq_some_iff.1 hq
              have h1 := HC.out
              rw [List.drop_eq_getElem_cons hl, e] at h1
              rw [cutF_cons] at h1
              dsimp only at h1
              rw [hf] at h1
              exact h1)
            have SF := Lib.hid (HOK.out f (List.mem_of_getElem? hf))
            obtain ⟨HR, vsR, R1, r1, R2, r2, R3, r3, R4, r4, xR, kR, hhR⟩ := TR.out
            obtain ⟨MR, hMR⟩ : ∃ MR, ({ MJ with files := fs, now := MJ.sur, ch := [], fail := 0 } : RkD) = MR := ⟨_, rfl⟩
            rw [hMR] at xR
            have hMf : MR.files = fs := by rw [← hMR]
            have HMR := Lib.hid hMR
            have HMF := Lib.hid hMf
            have XR := Lib.hid xR
            have KR := Lib.hid kR
            have HHR := Lib.hid hhR
            obtain ⟨v, hv⟩ : ∃ v, vsR[fi]? = some v := ⟨_, List.getElem?_eq_getElem (by rw [xR.fb.1, hMf]; exact hfi)⟩
            obtain ⟨g1, o1, hA1, hg1, hgG1, e0, e1⟩ := xR.fv.at hv
            obtain ⟨g2, o2, hA2, hg2, hgG2, d0, d1'⟩ := (NM.out.kept KR.out X2.out.hd).at hq
            have FB := Lib.hid (xR.fb.2 fi v f hv (by rw [hMf]; exact hf))
            subst hA1 hA2
            have HG1 := Lib.hid hgG1
            obtain ⟨NF, hNF⟩ : ∃ NF, MR.files.length = NF := ⟨_, rfl⟩
            have HNF := Lib.hid hNF
            have HFI := Lib.hid (show fi < MR.files.length by rw [hMf]; exact hfi)
            have NF2 := Lib.hid (show MR.files.length ≤ 1000 by rw [hMf, HFL.out]; have := OK.out.nl.2.2.2; omega)
            have BR := Lib.hid (show Blk wr p 87 #[.slice (some ⟨g1, o1, none⟩) NF r1, .slice R2 MR.now.length r2, .slice R3 MR.sur.length r3, .slice R4 MR.ch.length r4, .int .i64 MR.quota, .int .i64 MR.n, .int .i64 MR.fail] from by rw [← hNF]; exact xR.blk)
            have vm := FB.out.1.len.1
            have vm2 := FB.out.1.len.2.1
            have vm3 := FB.out.1.len.2.2.1
            unfold maxLen at vm3
            have vsu := FB.out.2
            have sf1 := SF.out.1
            have sf2 := SF.out.2
            rw [vm, ← vsu] at sf1
            rw [vm] at sf2
            obtain ⟨PJ, hPJ⟩ : ∃ PJ, pickM ps (j + 1) = PJ := ⟨_, rfl⟩
            have HPJ := Lib.hid hPJ
            obtain ⟨KK, hKK⟩ : ∃ KK, PJ % (v.m - v.sure + 1) = KK := ⟨_, rfl⟩
            have hKl2 : KK ≤ v.m - v.sure := by have := Nat.mod_lt PJ (show 0 < v.m - v.sure + 1 by omega); omega
            obtain ⟨NN, hNN⟩ : ∃ NN, v.sure + KK = NN := ⟨_, rfl⟩
            have HCU := Lib.hid (show cutM1 ps (j + 1) f = ⟨f.b.take NN, NN⟩ by unfold cutM1; rw [hPJ, vm, ← vsu, hKK, hNN])
            have hrem2 : (PJ : Int).tmod ((v.m : Int) - (v.sure : Int) + 1) = (KK : Int) := by rw [show (v.m : Int) - (v.sure : Int) + 1 = ((v.m - v.sure + 1 : Nat) : Int) by omega, ← hKK]; exact rfl
            have iwa : IntKind.i64.wrap ((v.m : Int) - (v.sure : Int)) = (v.m : Int) - (v.sure : Int) := IntWalk.i64_in _ (by omega)
            have iwb : IntKind.i64.wrap ((v.m : Int) - (v.sure : Int) + 1) = (v.m : Int) - (v.sure : Int) + 1 := IntWalk.i64_in _ (by omega)
            have izz : ((v.m : Int) - (v.sure : Int) + 1 == 0) = false := by simp; omega
            have izy : ¬ ((v.m : Int) - (v.sure : Int) + 1 = 0) := by omega
            have iwc : IntKind.i64.wrap ((v.sure : Int) + (KK : Int)) = (NN : Int) := by rw [show (v.sure : Int) + (KK : Int) = (NN : Int) by omega]; exact IntWalk.i64_in _ (by omega)
            have n0 : (0 : Int) ≤ (NN : Int) := by omega
            have n1 : (NN : Int) ≤ (v.m : Int) := by omega
            have n2 : (NN : Int) ≤ (v.c : Int) := by omega
            have hNm : NN ≤ v.m := by omega
            have i0 : (0 : Int) ≤ (j : Int) := by omega
            have i1 : (j : Int) < (S : Int) := by omega
            have i2 : (0 : Int) ≤ (fi : Int) := by omega
            have i3 : (fi : Int) < (NF : Int) := by
              have h1 : NF = fs.length := (by rw [← hNF, hMf])
              omega
            have iw : IntKind.i64.wrap ((j : Int) + 1) = (j : Int) + 1 := IntWalk.i64_in _ (by omega)
            have hlR := BR.out.lt
            have VSU := Lib.hid vsu
            have VM := Lib.hid vm
            clear hq hf hv xR kR hhR hMR hMf hNF hfi hPJ hKK hNN vsu vm
            go_upto_region 9 with (first
              | (((with_reducible show wpList _ _ _ ({ dst := none, op := Op.store 89 (.tmp 7) (.tmp 61), type := _, pos := _, after := _, guard := _ } :: _) _ _); refine wpList_put (t := 89) rfl 89 (.tmp 7) (.tmp 61) rfl _ (by rfl) (by rfl) (by (repeat (first | (apply Blk.new'; simp; done) | apply Blk.alloc | apply Blk.drew))) (by rfl) (by kernel_rfl) (by simp [Value.oneCell']) ?_; intro w5 hb5 hk5; have Hb5 := Lib.hid hb5; have Hk5 := Lib.hid hk5; clear hb5 hk5)
                 have K5 := Lib.hid (((Kept.refl [] wr).alloc _).trans Hk5.out (fun i hi => .inr (by simp at hi; omega)) : Kept [] wr w5)
                 have hx5 := Hb5.out.cell
                 have hxp5 := (BR.out.kept K5.out (by simp)).cell
                 have f0 := (K5.out.cell (p := ⟨g1, o1 + fi * 2, none⟩) hg1 (by simp)).trans e0
                 have f1 := (K5.out.cell (p := ⟨g1, o1 + fi * 2 + 1, none⟩) hg1 (by simp)).trans e1))
            have hg5 := Nat.lt_of_lt_of_le hg1 K5.out.size
            have hp5 := Nat.lt_of_lt_of_le hlR K5.out.size
            have hn5 : wr.heap.size < w5.heap.size := Hb5.out.lt
            refine wp_region_held_drew (S := (fun w' => (∀ i, w'.cell? ⟨p, i, none⟩ = (#[.slice (some ⟨g1, o1, none⟩) NF r1, .slice R2 MR.now.length r2, .slice R3 MR.sur.length r3, .slice R4 MR.ch.length r4, .int .i64 MR.quota, .int .i64 MR.n, .int .i64 MR.fail] : Array Value)[i]?) ∧ (∀ i, w'.cell? ⟨wr.heap.size, i, none⟩ = (#[.string (strOf x), .int .i64 (fi : Nat)] : Array Value)[i]?) ∧ w'.cell? ⟨g1, o1 + fi * 2, none⟩ = some (.slice v.A v.m v.c) ∧ w'.cell? ⟨g1, o1 + fi * 2 + 1, none⟩ = some (.int .i64 (v.sure : Nat)))) (by kernel_rfl) (⟨fun i => hxp5 i, fun i => hx5 i, f0, f1⟩) (fun hHeld => ?_)
            refine wpAnyH_take (i := 0) (oi := ⟨some 62, _, _, _, _, _⟩) (v := ?vh3_1) rfl (by kernel_rfl) (by kernel_rfl) (by kernel_rfl) (fun _ _ _ h => h) (Or.inl ⟨by kernel_rfl, ?hyh3_1⟩) (by assumption) ?resth3_1
            case hyh3_1 => (intro w99 hSw; (try dsimp only at hSw); obtain ⟨hs1, hs2, hs3, hs4⟩ := hSw; (try go_simp); (try with_reducible rfl); (try omega))
            simp only [Act.put, List.setIfInBounds_toArray, List.set_cons_zero, List.set_cons_succ]
            refine wpAnyH_take (i := 1) (oi := ⟨some 63, _, _, _, _, _⟩) (v := ?vh3_2) rfl (by kernel_rfl) (by kernel_rfl) (by kernel_rfl) (fun _ _ _ h => h) (Or.inl ⟨by kernel_rfl, ?hyh3_2⟩) (by assumption) ?resth3_2
            case hyh3_2 => (intro w99 hSw; (try dsimp only at hSw); obtain ⟨hs1, hs2, hs3, hs4⟩ := hSw; (try go_simp); (try with_reducible rfl); (try omega))
            simp only [Act.put, List.setIfInBounds_toArray, List.set_cons_zero, List.set_cons_succ]
            refine wpAnyH_take (i := 2) (oi := ⟨some 64, _, _, _, _, _⟩) (v := ?vh3_3) rfl (by kernel_rfl) (by kernel_rfl) (by kernel_rfl) (fun _ _ _ h => h) (Or.inl ⟨by kernel_rfl, ?hyh3_3⟩) (by assumption) ?resth3_3
            case hyh3_3 => (intro w99 hSw; (try dsimp only at hSw); obtain ⟨hs1, hs2, hs3, hs4⟩ := hSw; (try go_simp); (try with_reducible rfl); (try omega))
            simp only [Act.put, List.setIfInBounds_toArray, List.set_cons_zero, List.set_cons_succ]
            refine wpAnyH_take (i := 3) (oi := ⟨some 65, _, _, _, _, _⟩) (v := ?vh3_4) rfl (by kernel_rfl) (by kernel_rfl) (by kernel_rfl) (fun _ _ _ h => h) (Or.inl ⟨by kernel_rfl, ?hyh3_4⟩) (by assumption) ?resth3_4
            case hyh3_4 => (intro w99 hSw; (try dsimp only at hSw); obtain ⟨hs1, hs2, hs3, hs4⟩ := hSw; (try go_simp); (try with_reducible rfl); (try omega))
            simp only [Act.put, List.setIfInBounds_toArray, List.set_cons_zero, List.set_cons_succ]
            refine wpAnyH_take (i := 4) (oi := ⟨some 66, _, _, _, _, _⟩) (v := ?vh3_5) rfl (by kernel_rfl) (by kernel_rfl) (by kernel_rfl) (fun _ _ _ h => h) (Or.inl ⟨by kernel_rfl, ?hyh3_5⟩) (by assumption) ?resth3_5
            case hyh3_5 => (intro w99 hSw; (try dsimp only at hSw); obtain ⟨hs1, hs2, hs3, hs4⟩ := hSw; (try go_simp); (try with_reducible rfl); (try omega))
            simp only [Act.put, List.setIfInBounds_toArray, List.set_cons_zero, List.set_cons_succ]
            refine wpAnyH_take (i := 5) (oi := ⟨some 67, _, _, _, _, _⟩) (v := ?vh3_6) rfl (by kernel_rfl) (by kernel_rfl) (by kernel_rfl) (fun _ _ _ h => h) (Or.inl ⟨by kernel_rfl, ?hyh3_6⟩) (by assumption) ?resth3_6
            case hyh3_6 => (intro w99 hSw; (try dsimp only at hSw); obtain ⟨hs1, hs2, hs3, hs4⟩ := hSw; (try go_simp); (try with_reducible rfl); (try omega))
            simp only [Act.put, List.setIfInBounds_toArray, List.set_cons_zero, List.set_cons_succ]
            refine wpAnyH_take (i := 6) (oi := ⟨some 68, _, _, _, _, _⟩) (v := ?vh3_7) rfl (by kernel_rfl) (by kernel_rfl) (by kernel_rfl) (fun _ _ _ h => h) (Or.inl ⟨by kernel_rfl, ?hyh3_7⟩) (by assumption) ?resth3_7
            case hyh3_7 => (intro w99 hSw; (try dsimp only at hSw); obtain ⟨hs1, hs2, hs3, hs4⟩ := hSw; (try go_simp); (try with_reducible rfl); (try omega))
            simp only [Act.put, List.setIfInBounds_toArray, List.set_cons_zero, List.set_cons_succ]
            refine wpAnyH_take (i := 7) (oi := ⟨some 69, _, _, _, _, _⟩) (v := ?vh3_8) rfl (by kernel_rfl) (by kernel_rfl) (by kernel_rfl) (fun _ _ _ h => h) (Or.inl ⟨by kernel_rfl, ?hyh3_8⟩) (by assumption) ?resth3_8
            case hyh3_8 => (intro w99 hSw; (try dsimp only at hSw); obtain ⟨hs1, hs2, hs3, hs4⟩ := hSw; (try go_simp); (try with_reducible rfl); (try omega))
            simp only [Act.put, List.setIfInBounds_toArray, List.set_cons_zero, List.set_cons_succ]
            refine wpAnyH_ready (rs := [8]) (by kernel_rfl) (by simp) ?_
            refine AllReadyH.cons (o := ⟨some 8, _, _, _, _, _⟩) rfl (fun KQ hKQ => ?w8h3_9) AllReadyH.nil
            case w8h3_9 =>
              go_simp
              refine hKQ.out _ _ (⟨fun i => ((BR.out.kept K5.out (by simp)).kept (((Kept.refl [] w5).drew).alloc (.cells #[.slice none 0 0, .int .i64 0] 96)) (by simp)).cell i, fun i => (Hb5.out.kept (((Kept.refl [] w5).drew).alloc (.cells #[.slice none 0 0, .int .i64 0] 96)) (by simp)).cell i, ((((Kept.refl [] w5).drew).alloc (.cells #[.slice none 0 0, .int .i64 0] 96)).cell (p := ⟨g1, o1 + fi * 2, none⟩) hg5 (by simp)).trans f0, ((((Kept.refl [] w5).drew).alloc (.cells #[.slice none 0 0, .int .i64 0] 96)).cell (p := ⟨g1, o1 + fi * 2 + 1, none⟩) hg5 (by simp)).trans f1⟩) (fun hHeld9 => ?_)
              clear hKQ KQ hHeld
              have hHeld := hHeld9
              clear hHeld9
              try simp only [Act.put, List.setIfInBounds_toArray, List.set_cons_zero, List.set_cons_succ]
              refine wpAnyH_ready (rs := [9]) (by kernel_rfl) (by simp) ?_
              refine AllReadyH.cons (o := ⟨none, _, _, _, _, _⟩) rfl (fun KQ hKQ => ?w9h3_10) AllReadyH.nil
              case w9h3_10 =>
                go_simp
                refine hKQ.out _ _ (⟨fun i => ((BR.out.kept K5.out (by simp)).kept (((Kept.refl [] w5).alloc (.cells #[.slice v.A v.m v.c, .int .i64 (v.sure : Nat)] 96)).drew) (by simp)).cell i, fun i => (Hb5.out.kept (((Kept.refl [] w5).alloc (.cells #[.slice v.A v.m v.c, .int .i64 (v.sure : Nat)] 96)).drew) (by simp)).cell i, ((((Kept.refl [] w5).alloc (.cells #[.slice v.A v.m v.c, .int .i64 (v.sure : Nat)] 96)).drew).cell (p := ⟨g1, o1 + fi * 2, none⟩) hg5 (by simp)).trans f0, ((((Kept.refl [] w5).alloc (.cells #[.slice v.A v.m v.c, .int .i64 (v.sure : Nat)] 96)).drew).cell (p := ⟨g1, o1 + fi * 2 + 1, none⟩) hg5 (by simp)).trans f1⟩) (fun hHeld9 => ?_)
                clear hKQ KQ hHeld
                have hHeld := hHeld9
                clear hHeld9
                try simp only [Act.put, List.setIfInBounds_toArray, List.set_cons_zero, List.set_cons_succ]
                refine wpAnyH_done (by kernel_rfl) ?_ _
                clear hHeld
                have k9 : Kept [] w5 _ := (((Kept.refl [] w5).alloc (.cells #[.slice v.A v.m v.c, .int .i64 (v.sure : Nat)] 96)).drew)
                have b9 : Blk (w5.alloc (.cells #[.slice v.A v.m v.c, .int .i64 (v.sure : Nat)] 96)).drew w5.heap.size 96 #[.slice v.A v.m v.c, .int .i64 (v.sure : Nat)] := by (repeat (first | (apply Blk.new'; simp; done) | apply Blk.alloc | apply Blk.drew))
                go_upto_region 10 with fail
                have K9 := Lib.hid k9
                have B9 := Lib.hid b9
                clear k9 b9
                generalize (w5.alloc (.cells #[.slice v.A v.m v.c, .int .i64 (v.sure : Nat)] 96)).drew = w9 at *
                have N9 := Lib.hid (Hb5.out.kept K9.out (by simp))
                have hx9 := B9.out.cell
                have hn9 := N9.out.cell
                clear hx5 hxp5 f0 f1
                refine wp_region_held_drew (S := (fun w' => ∀ i, w'.cell? ⟨w5.heap.size, i, none⟩ = (#[.slice v.A v.m v.c, .int .i64 (v.sure : Nat)] : Array Value)[i]?)) (by kernel_rfl) (fun i => hx9 i) (fun hHeld => ?_)
                refine wpAnyH_take (i := 0) (oi := ⟨some 70, _, _, _, _, _⟩) (v := ?vh4_1) rfl (by kernel_rfl) (by kernel_rfl) (by kernel_rfl) (fun _ _ _ h => h) (Or.inl ⟨by kernel_rfl, ?hyh4_1⟩) (by assumption) ?resth4_1
                case hyh4_1 => (intro w99 hSw; (try dsimp only at hSw); (try go_simp); (try with_reducible rfl); (try omega))
                simp only [Act.put, List.setIfInBounds_toArray, List.set_cons_zero, List.set_cons_succ]
                refine wpAnyH_take (i := 1) (oi := ⟨some 71, _, _, _, _, _⟩) (v := ?vh4_2) rfl (by kernel_rfl) (by kernel_rfl) (by kernel_rfl) (fun _ _ _ h => h) (Or.inl ⟨by kernel_rfl, ?hyh4_2⟩) (by assumption) ?resth4_2
                case hyh4_2 => (intro w99 hSw; (try dsimp only at hSw); (try go_simp); (try with_reducible rfl); (try omega))
                simp only [Act.put, List.setIfInBounds_toArray, List.set_cons_zero, List.set_cons_succ]
                refine wpAnyH_take (i := 2) (oi := ⟨some 72, _, _, _, _, _⟩) (v := ?vh4_3) rfl (by kernel_rfl) (by kernel_rfl) (by kernel_rfl) (fun _ _ _ h => h) (Or.inl ⟨by kernel_rfl, ?hyh4_3⟩) (by assumption) ?resth4_3
                case hyh4_3 => (intro w99 hSw; (try dsimp only at hSw); (try go_simp); (try with_reducible rfl); (try omega))
                simp only [Act.put, List.setIfInBounds_toArray, List.set_cons_zero, List.set_cons_succ]
                refine wpAnyH_take (i := 3) (oi := ⟨some 73, _, _, _, _, _⟩) (v := ?vh4_4) rfl (by kernel_rfl) (by kernel_rfl) (by kernel_rfl) (fun _ _ _ h => h) (Or.inl ⟨by kernel_rfl, ?hyh4_4⟩) (by assumption) ?resth4_4
                case hyh4_4 => (intro w99 hSw; (try dsimp only at hSw); (try go_simp); (try with_reducible rfl); (try omega))
                simp only [Act.put, List.setIfInBounds_toArray, List.set_cons_zero, List.set_cons_succ]
                refine wpAnyH_take (i := 4) (oi := ⟨some 74, _, _, _, _, _⟩) (v := ?vh4_5) rfl (by kernel_rfl) (by kernel_rfl) (by kernel_rfl) (fun _ _ _ h => h) (Or.inl ⟨by kernel_rfl, ?hyh4_5⟩) (by assumption) ?resth4_5
                case hyh4_5 => (intro w99 hSw; (try dsimp only at hSw); (try go_simp); (try with_reducible rfl); (try omega))
                simp only [Act.put, List.setIfInBounds_toArray, List.set_cons_zero, List.set_cons_succ]
                refine wpAnyH_take (i := 6) (oi := ⟨some 76, _, _, _, _, _⟩) (v := ?vh4_6) rfl (by kernel_rfl) (by kernel_rfl) (by kernel_rfl) (fun _ _ _ h => h) (Or.inl ⟨by kernel_rfl, ?hyh4_6⟩) (by assumption) ?resth4_6
                case hyh4_6 => (intro w99 hSw; (try dsimp only at hSw); (try go_simp); (try with_reducible rfl); (try omega))
                simp only [Act.put, List.setIfInBounds_toArray, List.set_cons_zero, List.set_cons_succ]
                refine wpAnyH_take (i := 7) (oi := ⟨some 77, _, _, _, _, _⟩) (v := ?vh4_7) rfl (by kernel_rfl) (by kernel_rfl) (by kernel_rfl) (fun _ _ _ h => h) (Or.inl ⟨by kernel_rfl, ?hyh4_7⟩) (by assumption) ?resth4_7
                case hyh4_7 => (intro w99 hSw; (try dsimp only at hSw); (try go_simp); (try with_reducible rfl); (try omega))
                simp only [Act.put, List.setIfInBounds_toArray, List.set_cons_zero, List.set_cons_succ]
                refine wpAnyH_take (i := 8) (oi := ⟨some 78, _, _, _, _, _⟩) (v := ?vh4_8) rfl (by kernel_rfl) (by kernel_rfl) (by kernel_rfl) (fun _ _ _ h => h) (Or.inl ⟨by kernel_rfl, ?hyh4_8⟩) (by assumption) ?resth4_8
                case hyh4_8 => (intro w99 hSw; (try dsimp only at hSw); (try go_simp); (try with_reducible rfl); (try omega))
                simp only [Act.put, List.setIfInBounds_toArray, List.set_cons_zero, List.set_cons_succ]
                refine wpAnyH_take (i := 9) (oi := ⟨some 79, _, _, _, _, _⟩) (v := ?vh4_9) rfl (by kernel_rfl) (by kernel_rfl) (by kernel_rfl) (fun _ _ _ h => h) (Or.inl ⟨by kernel_rfl, ?hyh4_9⟩) (by assumption) ?resth4_9
                case hyh4_9 => (intro w99 hSw; (try dsimp only at hSw); (try go_simp); (try with_reducible rfl); (try omega))
                simp only [Act.put, List.setIfInBounds_toArray, List.set_cons_zero, List.set_cons_succ]
                refine wpAnyH_take (i := 10) (oi := ⟨some 80, _, _, _, _, _⟩) (v := ?vh4_10) rfl (by kernel_rfl) (by kernel_rfl) (by kernel_rfl) (fun _ _ _ h => h) (Or.inl ⟨by kernel_rfl, ?hyh4_10⟩) (by assumption) ?resth4_10
                case hyh4_10 => (intro w99 hSw; (try dsimp only at hSw); (try go_simp); (try with_reducible rfl); (try omega))
                simp only [Act.put, List.setIfInBounds_toArray, List.set_cons_zero, List.set_cons_succ]
                refine wpAnyH_take (i := 11) (oi := ⟨some 81, _, _, _, _, _⟩) (v := ?vh4_11) rfl (by kernel_rfl) (by kernel_rfl) (by kernel_rfl) (fun _ _ _ h => h) (Or.inl ⟨by kernel_rfl, ?hyh4_11⟩) (by assumption) ?resth4_11
                case hyh4_11 => (intro w99 hSw; (try dsimp only at hSw); (try go_simp); (try with_reducible rfl); (try omega))
                simp only [Act.put, List.setIfInBounds_toArray, List.set_cons_zero, List.set_cons_succ]
                refine wpAnyH_take (i := 12) (oi := ⟨some 82, _, _, _, _, _⟩) (v := ?vh4_12) rfl (by kernel_rfl) (by kernel_rfl) (by kernel_rfl) (fun _ _ _ h => h) (Or.inl ⟨by kernel_rfl, ?hyh4_12⟩) (by assumption) ?resth4_12
                case hyh4_12 => (intro w99 hSw; (try dsimp only at hSw); (try go_simp); (try with_reducible rfl); (try omega))
                simp only [Act.put, List.setIfInBounds_toArray, List.set_cons_zero, List.set_cons_succ]
                refine wpAnyH_ready (rs := [5]) (by kernel_rfl) (by simp) ?_
                refine AllReadyH.cons (o := ⟨some 75, _, _, _, _, _⟩) rfl (fun KQ hKQ => ?w5h4_13) AllReadyH.nil
                case w5h4_13 =>
                  go_simp
                  go_at_call 67
                  have hz := rpick_any w9.drew (HB.out.kept (((K2.out.trans KR.out (fun i hi => .inl hi)).trans (K5.out.trans K9.out (by simp)) (by simp)).drew) (fun q hm hp => HBP.out (by simp at hp; subst hp; exact hm))) (j + 1)
                  rw [HPJ.out, show (((j + 1 : Nat)) : Int) = (j : Int) + 1 by omega] at hz
                  with_reducible refine hz.mono ?_
                  clear hz
                  rintro e w10 ⟨rfl, rfl⟩
                  go_wp2_with fail
                  refine hKQ.out _ _ (fun i => hx9 i) (fun hHeld9 => ?_)
                  clear hKQ KQ hHeld
                  have hHeld := hHeld9
                  clear hHeld9
                  try simp only [Act.put, List.setIfInBounds_toArray, List.set_cons_zero, List.set_cons_succ]
                  refine wpAnyH_take (i := 13) (oi := ⟨some 83, _, _, _, _, _⟩) (v := .int .i64 (KK : Nat)) rfl (by kernel_rfl) (by kernel_rfl) (by kernel_rfl) (fun _ _ _ h => h) (Or.inl ⟨by kernel_rfl, ?hyh4_14⟩) (by assumption) ?resth4_14
                  case hyh4_14 => (intro w99 hSw; (try dsimp only at hSw); (try go_simp); (try with_reducible rfl); (try omega))
                  simp only [Act.put, List.setIfInBounds_toArray, List.set_cons_zero, List.set_cons_succ]
                  refine wpAnyH_take (i := 14) (oi := ⟨some 84, _, _, _, _, _⟩) (v := .int .i64 (NN : Nat)) rfl (by kernel_rfl) (by kernel_rfl) (by kernel_rfl) (fun _ _ _ h => h) (Or.inl ⟨by kernel_rfl, ?hyh4_15⟩) (by assumption) ?resth4_15
                  case hyh4_15 => (intro w99 hSw; (try dsimp only at hSw); (try go_simp); (try with_reducible rfl); (try omega))
                  simp only [Act.put, List.setIfInBounds_toArray, List.set_cons_zero, List.set_cons_succ]
                  refine wpAnyH_take (i := 15) (oi := ⟨some 9, _, _, _, _, _⟩) (v := ?vh4_16) rfl (by kernel_rfl) (by kernel_rfl) (by kernel_rfl) (fun _ _ _ h => h) (Or.inl ⟨by kernel_rfl, ?hyh4_16⟩) (by assumption) ?resth4_16
                  case hyh4_16 => (intro w99 hSw; (try dsimp only at hSw); (try go_simp); (try with_reducible rfl); (try omega))
                  simp only [Act.put, List.setIfInBounds_toArray, List.set_cons_zero, List.set_cons_succ]
                  refine wpAnyH_done (by kernel_rfl) ?_ _
                  clear hHeld
                  have KN := Lib.hid (K9.out.trans ((Kept.refl [] w9).drew) (by simp) : Kept [] w5 w9.drew)
                  have B10 := Lib.hid (B9.out.kept ((Kept.refl [] w9).drew) (by simp))
                  have N10 := Lib.hid (N9.out.kept ((Kept.refl [] w9).drew) (by simp))
                  clear hx9 hn9
                  go_upto_region 11 with fail
                  generalize w9.drew = w10 at *
                  have hx10 := B10.out.cell
                  have hn10 := N10.out.cell
                  have SRC := Lib.hid ((FB.out.1.kept (K5.out.trans KN.out (by simp)) (by simp)).upto NN hNm)
                  have SL := Lib.hid (show ([] : Bs).length + (f.b.take NN).length ≤ 1000000000 by rw [List.length_take]; simp only [List.length_nil]; omega)
                  refine wp_region_held_drew (S := (fun w' => (∀ i, w'.cell? ⟨wr.heap.size, i, none⟩ = (#[.string (strOf x), .int .i64 (fi : Nat)] : Array Value)[i]?) ∧ ∀ i, w'.cell? ⟨w5.heap.size, i, none⟩ = (#[.slice v.A v.m v.c, .int .i64 (v.sure : Nat)] : Array Value)[i]?)) (by kernel_rfl) (⟨fun i => hn10 i, fun i => hx10 i⟩) (fun hHeld => ?_)
                  refine wpAnyH_take (i := 0) (oi := ⟨some 85, _, _, _, _, _⟩) (v := ?vh5_1) rfl (by kernel_rfl) (by kernel_rfl) (by kernel_rfl) (fun _ _ _ h => h) (Or.inl ⟨by kernel_rfl, ?hyh5_1⟩) (by assumption) ?resth5_1
                  case hyh5_1 => (intro w99 hSw; (try dsimp only at hSw); obtain ⟨hs1, hs2⟩ := hSw; (try go_simp); (try with_reducible rfl); (try omega))
                  simp only [Act.put, List.setIfInBounds_toArray, List.set_cons_zero, List.set_cons_succ]
                  refine wpAnyH_take (i := 1) (oi := ⟨some 86, _, _, _, _, _⟩) (v := ?vh5_2) rfl (by kernel_rfl) (by kernel_rfl) (by kernel_rfl) (fun _ _ _ h => h) (Or.inl ⟨by kernel_rfl, ?hyh5_2⟩) (by assumption) ?resth5_2
                  case hyh5_2 => (intro w99 hSw; (try dsimp only at hSw); obtain ⟨hs1, hs2⟩ := hSw; (try go_simp); (try with_reducible rfl); (try omega))
                  simp only [Act.put, List.setIfInBounds_toArray, List.set_cons_zero, List.set_cons_succ]
                  refine wpAnyH_take (i := 2) (oi := ⟨some 87, _, _, _, _, _⟩) (v := ?vh5_3) rfl (by kernel_rfl) (by kernel_rfl) (by kernel_rfl) (fun _ _ _ h => h) (Or.inl ⟨by kernel_rfl, ?hyh5_3⟩) (by assumption) ?resth5_3
                  case hyh5_3 => (intro w99 hSw; (try dsimp only at hSw); obtain ⟨hs1, hs2⟩ := hSw; (try go_simp); (try with_reducible rfl); (try omega))
                  simp only [Act.put, List.setIfInBounds_toArray, List.set_cons_zero, List.set_cons_succ]
                  refine wpAnyH_take (i := 3) (oi := ⟨some 88, _, _, _, _, _⟩) (v := ?vh5_4) rfl (by kernel_rfl) (by kernel_rfl) (by kernel_rfl) (fun _ _ _ h => h) (Or.inl ⟨by kernel_rfl, ?hyh5_4⟩) (by assumption) ?resth5_4
                  case hyh5_4 => (intro w99 hSw; (try dsimp only at hSw); obtain ⟨hs1, hs2⟩ := hSw; (try go_simp); (try with_reducible rfl); (try omega))
                  simp only [Act.put, List.setIfInBounds_toArray, List.set_cons_zero, List.set_cons_succ]
                  refine wpAnyH_take (i := 4) (oi := ⟨some 89, _, _, _, _, _⟩) (v := ?vh5_5) rfl (by kernel_rfl) (by kernel_rfl) (by kernel_rfl) (fun _ _ _ h => h) (Or.inl ⟨by kernel_rfl, ?hyh5_5⟩) (by assumption) ?resth5_5
                  case hyh5_5 => (intro w99 hSw; (try dsimp only at hSw); obtain ⟨hs1, hs2⟩ := hSw; (try go_simp); (try with_reducible rfl); (try omega))
                  simp only [Act.put, List.setIfInBounds_toArray, List.set_cons_zero, List.set_cons_succ]
                  refine wpAnyH_take (i := 5) (oi := ⟨some 90, _, _, _, _, _⟩) (v := ?vh5_6) rfl (by kernel_rfl) (by kernel_rfl) (by kernel_rfl) (fun _ _ _ h => h) (Or.inl ⟨by kernel_rfl, ?hyh5_6⟩) (by assumption) ?resth5_6
                  case hyh5_6 => (intro w99 hSw; (try dsimp only at hSw); obtain ⟨hs1, hs2⟩ := hSw; (try go_simp); (try with_reducible rfl); (try omega))
                  simp only [Act.put, List.setIfInBounds_toArray, List.set_cons_zero, List.set_cons_succ]
                  refine wpAnyH_take (i := 6) (oi := ⟨some 91, _, _, _, _, _⟩) (v := .slice v.A NN v.c) rfl (by kernel_rfl) (by kernel_rfl) (by kernel_rfl) (fun _ _ _ h => h) (Or.inl ⟨by kernel_rfl, ?hyh5_7⟩) (by assumption) ?resth5_7
                  case hyh5_7 => (intro w99 hSw; (try dsimp only at hSw); obtain ⟨hs1, hs2⟩ := hSw; (try go_simp); (try with_reducible rfl); (try omega))
                  simp only [Act.put, List.setIfInBounds_toArray, List.set_cons_zero, List.set_cons_succ]
                  refine wpAnyH_take (i := 8) (oi := ⟨some 93, _, _, _, _, _⟩) (v := ?vh5_8) rfl (by kernel_rfl) (by kernel_rfl) (by kernel_rfl) (fun _ _ _ h => h) (Or.inl ⟨by kernel_rfl, ?hyh5_8⟩) (by assumption) ?resth5_8
                  case hyh5_8 => (intro w99 hSw; (try dsimp only at hSw); obtain ⟨hs1, hs2⟩ := hSw; (try go_simp); (try with_reducible rfl); (try omega))
                  simp only [Act.put, List.setIfInBounds_toArray, List.set_cons_zero, List.set_cons_succ]
                  refine wpAnyH_ready (rs := [7]) (by kernel_rfl) (by simp) ?_
                  refine AllReadyH.cons (o := ⟨some 92, _, _, _, _, _⟩) rfl (fun KQ hKQ => ?w7h5_9) AllReadyH.nil
                  case w7h5_9 =>
                    refine step_byt (W := w10) (w0 := w10.drew) (v := .slice none 0 0) (l := []) rfl (.const (.slice none 0 0)) (.tmp 91) rfl (by first | (simp [Act.eval]; done) | (simp [Act.eval]; rfl) | rfl) (BtV.nil ((Kept.refl [] w10).drew)) (by first | (simp [Act.eval]; done) | (simp [Act.eval]; rfl) | rfl) (SRC.out.kept ((Kept.refl [] w10).drew) (by simp)) SL.out ?_
                    intro A11 m11 c11 w11 h11 k11 r11
                    have V11 := Lib.hid h11
                    have K11 := Lib.hid (Kept.trans ((Kept.refl [] w10).drew) (show Kept [] w10.drew w11 from k11) (by simp))
                    have KW := Lib.hid (K5.out.trans (KN.out.trans K11.out (by simp)) (by simp) : Kept [] wr w11)
                    clear h11 k11 r11
                    refine hKQ.out _ _ (⟨fun i => (N10.out.kept K11.out (by simp)).cell i, fun i => (B10.out.kept K11.out (by simp)).cell i⟩) (fun hHeld9 => ?_)
                    clear hKQ KQ hHeld
                    have hHeld := hHeld9
                    clear hHeld9
                    try simp only [Act.put, List.setIfInBounds_toArray, List.set_cons_zero, List.set_cons_succ]
                    refine wpAnyH_take (i := 9) (oi := ⟨some 94, _, _, _, _, _⟩) (v := ?vh5_10) rfl (by kernel_rfl) (by kernel_rfl) (by kernel_rfl) (fun _ _ _ h => h) (Or.inl ⟨by kernel_rfl, ?hyh5_10⟩) (by assumption) ?resth5_10
                    case hyh5_10 => (intro w99 hSw; (try dsimp only at hSw); obtain ⟨hs1, hs2⟩ := hSw; (try go_simp); (try with_reducible rfl); (try omega))
                    simp only [Act.put, List.setIfInBounds_toArray, List.set_cons_zero, List.set_cons_succ]
                    refine wpAnyH_ready (rs := [10]) (by kernel_rfl) (by simp) ?_
                    refine AllReadyH.cons (o := ⟨some 95, _, _, _, _, _⟩) rfl (fun KQ hKQ => ?w10h5_11) AllReadyH.nil
                    case w10h5_11 =>
                      go_simp
                      go_at_call 66
                      have hz := rput_any (XR.out.go KW.out) HFI.out (s := NN) V11.out.rd (fun hm => by have h1 := V11.out.new _ hm; have h2 := (K5.out.trans KN.out (by simp) : Kept [] wr w10).size; omega) (fun q hm => V11.out.own.lt q hm) (by have := NF2.out; omega)
                      with_reducible refine hz.mono ?_
                      clear hz
                      rintro e w12 ⟨rfl, h12⟩
                      have K12 := Lib.hid (show Kept [p] w11 w12 from by obtain ⟨_, _, _, _, _, _, _, _, _, _, _, hk, _⟩ := h12; exact hk)
                      have T12 := Lib.hid (RkTo.from (w := w2) (H := HJ) h12 (KR.out.trans KW.out (by simp)) (fun q hm => (List.mem_append.1 hm).elim (HHR.out q) (fun h => .inr (Nat.le_trans (KR.out.trans (K5.out.trans KN.out (by simp) : Kept [] wr w10) (by simp)).size (V11.out.new _ h)))))
                      clear h12
                      go_wp2_with fail
                      refine hKQ.out _ _ (⟨fun i => ((N10.out.kept K11.out (by simp)).kept K12.out (by simp; omega)).cell i, fun i => ((B10.out.kept K11.out (by simp)).kept K12.out (by simp; omega)).cell i⟩) (fun hHeld9 => ?_)
                      clear hKQ KQ hHeld
                      have hHeld := hHeld9
                      clear hHeld9
                      try simp only [Act.put, List.setIfInBounds_toArray, List.set_cons_zero, List.set_cons_succ]
                      refine wpAnyH_done (by kernel_rfl) ?_ _
                      clear hHeld
                      go_wp2
                      go_roundg (S - (j + 1))
                      case measure => omega
                      case rel =>
                        have hset : ∀ f' ∈ fs.set fi (cutM1 ps (j + 1) f), f'.sure ≤ f'.b.length ∧ f'.b.length ≤ 1048576 := fun f' hf' => by
                          rcases List.mem_or_eq_of_mem_set hf' with h1 | h1
                          · exact HOK.out f' h1
                          · rw [h1]; exact cutM1_ok SF.out
                        refine ⟨j + 1, fs.set fi (cutM1 ps (j + 1) f), by omega, rfl, by go_num, HC2.out, by rw [List.length_set]; exact HFL.out, hset, ?_⟩
                        have h1 := T12.out
                        rw [HMF.out, List.nil_append, ← HCU.out, ← HMR.out] at h1
                        exact h1
          · obtain rfl : j = S := by omega
            have i1 : ¬ (j : Int) < (j : Int) := by omega
            go_wp2
            go_end0
            refine ⟨rfl, ?_⟩
            have h1 := HC.out
            rw [List.drop_of_length_le (by rw [HSS.out]; exact Nat.le_refl _)] at h1
            have h2 : fs = cutF ps 1 s M.files := h1
            have h3 := RkTo.from (H := H) TR.out K2.out HHJ.out
            have h4 : ({ MJ with files := fs, now := MJ.sur, ch := [], fail := 0 } : RkD) = craM M ps := by
              unfold craM
              rw [← HS.out, HJS.out, h2, ← HMJ.out]
            rw [h4] at h3
            exact h3
end
end Go.Proofs.Ythdjdfdefibepaa
