
/-
  The contract of the reference's DecodeManifest.
-/
import Derived.Test.YtflbeipnnmeiaaaManD
import Derived.Test.YtflbeipnnmeiaaaFrameA
namespace Go.Proofs.Ytflbeipnnmeiaaa
open Go.RowKit Go.ChangeShapes Go.WideShapes Go.Deep
set_option linter.unusedVariables false

theorem mDecode_any (w : World) {G : List Nat} {A : Option Addr} {m c : Nat} {bs : List UInt8} (h : RdB w G (.slice A m c) bs) (hG : ∀ k ∈ G, k < w.heap.size) :
    Calls Try.prog 9 #[.slice A m c] w (ManRet w bs) := by
  by_cases d0 : (takeF bs).2.2 = 0
  · by_cases d1 : (takeF bs).2.1 < bs.length
    · exact mDecode_bad w h hG (.inr (.inl d1))
    · by_cases d2 : (takeF bs).1.kind = 100
      · cases d3 : verB (takeF bs).1.ver
        · exact mDecode_bad w h hG (.inr (.inr (.inr d3)))
        · exact mDecode_ok w h hG d0 d1 d2 d3
      · exact mDecode_bad w h hG (.inr (.inr (.inl d2)))
  · exact mDecode_bad w h hG (.inl d0)
theorem takeF_le {c : List UInt8} (h : (takeF c).2.2 = 0) : (takeF c).2.1 ≤ c.length := by
  obtain ⟨h1, -, h3, -, h5, -⟩ := takeF_ok h
  rw [List.length_drop] at h3
  omega
/-- where the reference's loop stands still: at the count, or where nothing is left -/
theorem decM_tail {bs : List UInt8} (h : (takeF bs).2.2 = 0) (h2 : ¬ ((takeF bs).2.1 < bs.length ∨ (takeF bs).1.kind ≠ 100)) (h3 : verB (takeF bs).1.ver = true) (k : Nat)
    (hk : k ≤ gk (nk (some (takeF bs).1.body) 4) 2) (hs : k = gk (nk (some (takeF bs).1.body) 4) 2 ∨ (rdU k (nk (nk (some (takeF bs).1.body) 4) 2)).2 = none)
    (x : ManD) (hx : x = ⟨(takeF bs).1.ver, (gk (some (takeF bs).1.body) 4 : Nat), (rdU k (nk (nk (some (takeF bs).1.body) 4) 2)).1⟩) (o : Option (List UInt8)) (ho : o = (rdU k (nk (nk (some (takeF bs).1.body) 4) 2)).2) :
    ((endOf (o.getD []) (erO o) ≠ 0 ∨ mayM x = false) → decME bs = 3 ∧ decMR bs = default) ∧ (endOf (o.getD []) (erO o) = 0 → mayM x = true → decME bs = 0 ∧ decMR bs = x) := by
  have hg := decM_good h h2 h3
  generalize (takeF bs).1.body = body at *
  generalize (takeF bs).1.ver = v at *
  obtain ⟨c1, c2⟩ := goodM_cap (cap := 65536) (by omega) v body
  have hlt := gk_lt (nk (some body) 4) 2
  rcases hs with hs | hs
  · have hr : rdM 65536 v body = (x, o) := by
      unfold rdM
      rw [Nat.min_eq_left (by omega), ← hs, hx, ho]
    have he := goodM_end 65536 v body
    rw [hr] at he
    dsimp only at he
    rw [c1] at he
    constructor
    · intro hq
      refine hg.1 (he.trans ?_)
      rcases hq with hq | hq
      · rw [decide_eq_false hq]; rfl
      · rw [hq, Bool.and_false]
    · intro q1 q2
      have ht : goodM 65 v body = true := he.trans (by rw [q1, q2]; rfl)
      have := hg.2 ht
      rw [← c2 ht, hr] at this
      exact this
  · have hn : o = none := by rw [ho, hs]
    have hf : goodM 65 v body = false := by
      rw [← c1]
      unfold goodM rdM
      rw [Nat.min_eq_left (by omega), rdU_none k _ hs _ hk]
      rfl
    refine ⟨fun _ => hg.1 hf, fun q1 _ => ?_⟩
    rw [hn] at q1
    exact absurd q1 (by decide)
theorem RW.blk {t : TypeId} {W w : World} {b : Nat} {o : Option (List UInt8)} (h : RW t W b o w) : ∃ v, Blk w b t #[v, .int .i64 (erO o)] := by
  obtain ⟨_, ⟨⟨v, h, _⟩, _⟩, _⟩ := h; exact ⟨v, h⟩
set_option maxHeartbeats 3200000 in
/-- what is no frame, or no manifest's -/
theorem rmDecode_bad (w : World) {G : List Nat} {A : Option Addr} {m c : Nat} {bs : List UInt8} (h : RdB w G (.slice A m c) bs) (hG : ∀ k ∈ G, k < w.heap.size)
    (hq : (takeF bs).2.2 ≠ 0 ∨ (takeF bs).2.1 < bs.length ∨ (takeF bs).1.kind ≠ 100 ∨ verB (takeF bs).1.ver = false) :
    Calls Try.prog 10 #[.slice A m c] w (ManRet w bs) := by
  have H := Lib.hid (h.kept ((Kept.refl [] w).alloc (.cells #[.int .i64 0, .int .i64 0, .slice none 0 0] 24)) (by simp))
  have hlen := h.len.1
  have hcm := h.len.2.2.1
  have hmc := h.len.2.1
  unfold maxLen at hcm
  have hways : ((takeF bs).2.2 ≠ 0 ∧ decME bs = (takeF bs).2.2 ∧ decMR bs = default) ∨ ((takeF bs).2.2 = 0 ∧ (takeF bs).2.1 < m ∧ decME bs = 3 ∧ decMR bs = default) ∨ ((takeF bs).2.2 = 0 ∧ (takeF bs).2.1 = m ∧ (takeF bs).1.kind ≠ 100 ∧ decME bs = 3 ∧ decMR bs = default) ∨
      ((takeF bs).2.2 = 0 ∧ (takeF bs).2.1 = m ∧ (takeF bs).1.kind = 100 ∧ verB (takeF bs).1.ver = false ∧ decME bs = 10 ∧ decMR bs = default) := by
    rw [← hlen]
    by_cases h0 : (takeF bs).2.2 = 0
    · have hle := takeF_le h0
      right
      by_cases h1 : (takeF bs).2.1 < bs.length
      · exact .inl ⟨h0, h1, decM_form h0 (.inl h1)⟩
      · by_cases h2 : (takeF bs).1.kind = 100
        · have h3 : verB (takeF bs).1.ver = false := by rcases hq with hq | hq | hq | hq <;> first | exact hq | omega
          exact .inr (.inr ⟨h0, by omega, h2, h3, decM_ver h0 (by omega) h3⟩)
        · exact .inr (.inl ⟨h0, by omega, h2, decM_form h0 (.inr h2)⟩)
    · exact .inl ⟨h0, decM_bad h0⟩
  obtain ⟨f, n, e, ht⟩ : ∃ f n e, takeF bs = (f, n, e) := ⟨_, _, _, rfl⟩
  rw [ht] at hways
  dsimp only at hways
  obtain ⟨k, v, body⟩ := f
  dsimp only at hways
  have HT := Lib.hid ht
  clear ht hq h hlen
  unfold ManRet
  rcases hways with ⟨d0, hz⟩ | ⟨d0, d1, hz⟩ | ⟨d0, d1, d2, hz⟩ | ⟨d0, d1, d2, d3, hz⟩
  all_goals
    first | subst d0 | (have b0 : (e == 0) = false := by simpa using d0
                        have c0 : (e != 0) = true := by simpa using d0)
    first | subst d1 | (have b1 : ((n : Int) == (m : Int)) = false := by rw [beq_eq_false_iff_ne]; omega
                        have c1 : ((n : Int) != (m : Int)) = true := by rw [bne_iff_ne]; omega) | skip
    first | subst d2 | (have b2 : (k == 100) = false := by simpa using d2
                        have c2 : (k != 100) = true := by simpa using d2) | skip
    have HZ := Lib.hid hz
    clear hz
    go_enter Try.func10, Try.ntmps10
    go_wp2_with (first
      | (go_at_call 26
         go_must (refine (rTake_any _ _ _ _ _ _ H.out).mono ?_)
         go_must (rintro e1 w1 ⟨v1, rfl, hn1⟩)
         go_must (rw [HT.out] at hn1 ⊢)
         go_must (dsimp only at hn1 ⊢)
         go_must (obtain ⟨A1, m1, c1, rfl⟩ := hn1.1.form')
         go_must (have K1 := Lib.hid (Kept.trans ((Kept.refl [] w).alloc _) hn1.2.1 (by simp)))
         go_must (have B := Lib.hid ((Blk.new w 24 #[.int .i64 0, .int .i64 0, .slice none 0 0]).kept hn1.2.1 (by simp)))
         go_must (clear hn1))
      | (go_at_call 27; refine (rVersion_any _ _).mono ?_; rintro e w' ⟨rfl, rfl⟩; rw [d3])
      | ((with_reducible show wpList _ _ _ ({ dst := none, op := Op.store 24 (.tmp 2) (.tmp 17), type := _, pos := _, after := _, guard := _ } :: _) _ _); refine wpList_put (t := 24) rfl 24 (.tmp 2) (.tmp 17) rfl _ (by rfl) (by rfl) (by exact B.out.alloc _) (by rfl) (by kernel_rfl) (by simp [Value.oneCell']) ?_; intro w9 hb9 hk9; have Hb9 := Lib.hid hb9; have Hk9 := Lib.hid hk9; clear hb9 hk9)
      | ((with_reducible show wpList _ _ _ ({ dst := none, op := Op.store 24 (.tmp 2) (.tmp 28), type := _, pos := _, after := _, guard := _ } :: _) _ _); refine wpList_put (t := 24) rfl 24 (.tmp 2) (.tmp 28) rfl _ (by rfl) (by rfl) (by exact B.out.alloc _) (by rfl) (by kernel_rfl) (by simp [Value.oneCell']) ?_; intro w9 hb9 hk9; have Hb9 := Lib.hid hb9; have Hk9 := Lib.hid hk9; clear hb9 hk9)
      | ((with_reducible show wpList _ _ _ ({ dst := none, op := Op.store 24 (.tmp 2) (.tmp 33), type := _, pos := _, after := _, guard := _ } :: _) _ _); refine wpList_put (t := 24) rfl 24 (.tmp 2) (.tmp 33) rfl _ (by rfl) (by rfl) (by exact B.out.alloc _) (by rfl) (by kernel_rfl) (by simp [Value.oneCell']) ?_; intro w9 hb9 hk9; have Hb9 := Lib.hid hb9; have Hk9 := Lib.hid hk9; clear hb9 hk9))
    refine bodyPost_ret (results_cell1 (t := 24) Try.results10 (by rfl) Hb9.out _ Try.underlying24 rfl (by kernel_rfl)) rfl ?_
    rw [HZ.out.1, HZ.out.2]
    exact ⟨_, rfl, LV.nil ((K1.out.alloc _).trans Hk9.out (fun i hi => .inr (by simp at hi; omega)))⟩

set_option maxHeartbeats 6400000 in
/-- a manifest's frame -/
theorem rmDecode_ok (w : World) {G : List Nat} {A : Option Addr} {m c : Nat} {bs : List UInt8} (h : RdB w G (.slice A m c) bs) (hG : ∀ k ∈ G, k < w.heap.size)
    (d0 : (takeF bs).2.2 = 0) (d1 : ¬ (takeF bs).2.1 < bs.length) (d2 : (takeF bs).1.kind = 100) (d3 : verB (takeF bs).1.ver = true) :
    Calls Try.prog 10 #[.slice A m c] w (ManRet w bs) := by
  have H := Lib.hid (h.kept ((Kept.refl [] w).alloc (.cells #[.int .i64 0, .int .i64 0, .slice none 0 0] 24)) (by simp))
  have hcm := h.len.2.2.1
  have hmc := h.len.2.1
  have hle := takeF_le d0
  rw [h.len.1] at d1 hle
  unfold maxLen at hcm
  have hbl : (takeF bs).1.body.length ≤ 4096 := by
    obtain ⟨-, -, -, -, -, e, hl⟩ := takeF_ok d0
    rw [e]; simp only [List.length_take]; omega
  have HTAIL := Lib.hid (decM_tail d0 (by rw [h.len.1]; omega) d3)
  obtain ⟨f, n, e, ht⟩ : ∃ f n e, takeF bs = (f, n, e) := ⟨_, _, _, rfl⟩
  obtain ⟨k0, v, body⟩ := f
  have HT := Lib.hid ht
  have HTAIL := HTAIL.out
  rw [ht] at HTAIL hbl d0 d1 d2 d3 hle
  dsimp only at HTAIL hbl d0 d1 d2 d3 hle
  subst d0 d2
  have d6 : n = m := by omega
  subst d6
  have D3 := Lib.hid d3
  clear ht h d3 hle d1
  unfold ManRet
  obtain ⟨nx, hnx⟩ : ∃ nx : Nat, gk (some body) 4 = nx := ⟨_, rfl⟩
  obtain ⟨o4, ho4⟩ : ∃ o, nk (some body) 4 = o := ⟨_, rfl⟩
  obtain ⟨n8, hn8⟩ : ∃ n, gk o4 2 = n := ⟨_, rfl⟩
  obtain ⟨o1, ho1⟩ : ∃ o, nk o4 2 = o := ⟨_, rfl⟩
  have hl8 := gk_lt o4 2
  have hln := gk_lt (some body) 4
  rw [hn8] at hl8
  rw [hnx] at hln
  rw [hnx, ho4, hn8, ho1] at HTAIL
  have HTAIL := Lib.hid HTAIL
  have hwn : IntKind.i64.wrap (nx : Int) = (nx : Int) := IntWalk.i64_in _ (by omega)
  have EN := Lib.hid hnx
  have E4 := Lib.hid ho4
  have E8 := Lib.hid hn8
  have E1 := Lib.hid ho1
  clear hnx ho4 hn8 ho1
  go_enter Try.func10, Try.ntmps10
  go_upto_region 9 with (first
    | (go_at_call 26
       go_must (refine (rTake_any _ _ _ _ _ _ H.out).mono ?_)
       go_must (rintro e1 w1 ⟨v1, rfl, hn1⟩)
       go_must (rw [HT.out] at hn1 ⊢)
       go_must (dsimp only at hn1 ⊢)
       go_must (obtain ⟨A1, m1, c1, rfl⟩ := hn1.1.form')
       go_must (have K1 := Lib.hid (Kept.trans ((Kept.refl [] w).alloc _) hn1.2.1 (by simp)))
       go_must (have B := Lib.hid ((Blk.new w 24 #[.int .i64 0, .int .i64 0, .slice none 0 0]).kept hn1.2.1 (by simp)))
       go_must (have V := Lib.hid (RdB.of_own hn1.1))
       go_must (have VL := Lib.hid hn1.1.lt)
       go_must (have hB1 := B.out.lt)
       go_must (clear hn1))
    | (go_at_call 27; refine (rVersion_any _ _).mono ?_; rintro e w' ⟨rfl, rfl⟩; rw [D3.out]))
  have kA : Kept [] w1 ((w1.alloc (.cells #[.int .i64 100, .int .i64 v, .slice A1 m1 c1] 27)).alloc (.cells #[.slice A1 m1 c1, .int .i64 0] 58)) := by (repeat (first | exact Kept.refl _ _ | apply Kept.alloc | apply Kept.drew))
  have F := Lib.hid (show Blk ((w1.alloc (.cells #[.int .i64 100, .int .i64 v, .slice A1 m1 c1] 27)).alloc (.cells #[.slice A1 m1 c1, .int .i64 0] 58)) w1.heap.size 27 #[.int .i64 100, .int .i64 v, .slice A1 m1 c1] from by (repeat (first | (apply Blk.new'; simp; done) | apply Blk.alloc | apply Blk.drew)))
  have Y : Blk ((w1.alloc (.cells #[.int .i64 100, .int .i64 v, .slice A1 m1 c1] 27)).alloc (.cells #[.slice A1 m1 c1, .int .i64 0] 58)) (w1.heap.size + 1) 58 #[.slice A1 m1 c1, .int .i64 0] := by (repeat (first | (apply Blk.new'; simp; done) | apply Blk.alloc | apply Blk.drew))
  have B := Lib.hid (B.out.kept kA (by simp))
  have K3 := Lib.hid (K1.out.trans kA (by simp))
  have R : Hid (RWr w (w1.heap.size + 1) (some body) ((w1.alloc (.cells #[.int .i64 100, .int .i64 v, .slice A1 m1 c1] 27)).alloc (.cells #[.slice A1 m1 c1, .int .i64 0] 58))) :=
    Lib.hid ⟨_, ⟨⟨_, Y, V.out.kept kA (by simp)⟩, fun hm => by have := VL.out _ hm; omega⟩, by omega, fun k hk => by have := VL.out k hk; omega, K3.out, by show body.length ≤ 1000000; omega⟩
  clear Y kA V VL K1
  generalize ((w1.alloc (.cells #[.int .i64 100, .int .i64 v, .slice A1 m1 c1] 27)).alloc (.cells #[.slice A1 m1 c1, .int .i64 0] 58)) = w3 at *
  obtain ⟨b, hb⟩ : ∃ b, w1.heap.size + 1 = b := ⟨_, rfl⟩
  rw [hb] at R ⊢
  have hb1' : w1.heap.size < b := by omega
  clear hb
  have hbw := R.out.lt
  have hcF := F.out.cell
  go_cut [8] (fun p wx => ∃ g, p = .pointer (some ⟨g, 0, none⟩) ∧ Blk wx g 24 #[.int .i64 v, .int .i64 (nx : Nat), .slice none 0 0] ∧ Blk wx w.heap.size 24 #[.int .i64 0, .int .i64 0, .slice none 0 0] ∧ b < g ∧ RWr w b o4 wx)
  case first =>
    clear hln hl8 hcm hmc hG hbl HT HTAIL K3 E8 E1 D3 H
    go_region_held3 (fun w' => ∀ o, w'.cell? ⟨w1.heap.size, o, none⟩ = (#[.int .i64 100, .int .i64 v, .slice A1 m1 c1] : Array Value)[o]?) (exact Blk.cell (g := w1.heap.size) (t := 27) (by repeat (first | with_reducible exact F.out | with_reducible apply Blk.alloc | with_reducible apply Blk.drew | (with_reducible refine Blk.far ?_ (by simp <;> omega) _))))
      (first
       | (go_at_call 28
          with_reducible refine (EU32 (w := w3.drew) (R.out.go ((Kept.refl [] w3).drew))).mono ?_
          go_must (rintro e w4 ⟨rfl, h1, k1⟩)
          go_must (rw [EN.out])
          go_must (rw [E4.out] at h1)
          go_must (have hb2 := h1.lt)
          go_must (have kC := Kept.trans (Kept.trans (Kept.refl [b] w3) ((Kept.refl [] w3).drew) (by simp)) k1 (fun i hi => .inl hi))
          go_must (have B := Lib.hid (B.out.kept kC (by simp; omega)))
          go_must (have F := Lib.hid (F.out.kept kC (by simp; omega)))
          go_must (have hcF := F.out.cell)
          go_must (have R := Lib.hid h1)
          go_must (clear h1 k1 kC))
       | (go_at_call 28
          with_reducible refine (EU32 (w := (w3.alloc (.cells #[.int .i64 0, .int .i64 0, .slice none 0 0] 24)).drew) (R.out.go (((Kept.refl [] w3).alloc (.cells #[.int .i64 0, .int .i64 0, .slice none 0 0] 24)).drew))).mono ?_
          go_must (rintro e w4 ⟨rfl, h1, k1⟩)
          go_must (rw [EN.out])
          go_must (rw [E4.out] at h1)
          go_must (have hb2 := h1.lt)
          go_must (have kC := Kept.trans (Kept.trans (Kept.refl [b] w3) (((Kept.refl [] w3).alloc (.cells #[.int .i64 0, .int .i64 0, .slice none 0 0] 24)).drew) (by simp)) k1 (fun i hi => .inl hi))
          go_must (have M := Lib.hid (Blk.kept (g := w3.heap.size) (t := 24) (cs := #[.int .i64 0, .int .i64 0, .slice none 0 0]) (by (repeat (first | (apply Blk.new'; simp; done) | apply Blk.alloc | apply Blk.drew))) k1 (by simp; omega)))
          go_must (have hcM := M.out.cell)
          go_must (have hfM := M.out.frozen)
          go_must (have hsM := M.out.lt)
          go_must (have B := Lib.hid (B.out.kept kC (by simp; omega)))
          go_must (have F := Lib.hid (F.out.kept kC (by simp; omega)))
          go_must (have hcF := F.out.cell)
          go_must (have R := Lib.hid h1)
          go_must (clear h1 k1 kC)))
    all_goals
      go_wp2
      go_meet
      case rel =>
        first
          | (with_reducible exact ⟨_, rfl, Blk.new _ _ _, B.out.alloc _, hb2, R.out.go ((Kept.refl _ _).alloc _)⟩)
          | (have hk9 : Kept [w3.heap.size] w4 (w4.setCells w3.heap.size 0 [.int .i64 v, .int .i64 (nx : Nat), .slice none 0 0]) := Kept.setCells _ _ _ _ (Kept.refl _ _)
             exact ⟨w3.heap.size, rfl, M.out.whole #[.int .i64 v, .int .i64 (nx : Nat), .slice none 0 0] rfl, B.out.kept hk9 (by simp; omega), hbw, R.out.other hk9 (by simp; omega)⟩)
  case rest =>
    obtain ⟨g, rfl, hM, hB, hg, hR⟩ := hcut
    clear B F hcF R EN E4 hcm hmc hG hbl hln D3 H K3 HT
    have hw1 : w.heap.size < b := by omega
    have M := Lib.hid hM
    have B := Lib.hid hB
    have R := Lib.hid hR
    have hgl := hM.lt
    clear hM hB hR
    go_wp2_with (first
      | (go_at_call 29
         go_must (refine (EU16 R.out).mono ?_)
         go_must (rintro e w5 ⟨rfl, h1, k1⟩)
         go_must (rw [E8.out]; rw [E1.out] at h1)
         go_must (have M := Lib.hid (M.out.kept k1 (by simp; omega)))
         go_must (have B := Lib.hid (B.out.kept k1 (by simp; omega)))
         go_must (have hs5 := k1.size)
         go_must (have hgl5 := M.out.lt)
         go_must (have R := Lib.hid h1)
         go_must (clear h1 k1)))
    go_loopg [46] n8 (fun gg i wr => ∃ k : Nat, k ≤ n8 ∧ gg = n8 - k ∧ i = .int .i64 k ∧ ∃ sl, Blk wr g 24 #[.int .i64 v, .int .i64 (nx : Nat), sl] ∧ IntO w w5 wr sl (rdU k o1).1 ∧ RWr w b (rdU k o1).2 wr ∧ Blk wr w.heap.size 24 #[.int .i64 0, .int .i64 0, .slice none 0 0] ∧ Kept [b, g] w5 wr)
    case atStart => exact ⟨0, by omega, by omega, rfl, _, M.out, IntO.nil R.out.kept, R.out, B.out, Kept.refl _ _⟩
    case round =>
      obtain ⟨k, hk, rfl, rfl, sl, hM, hS, hR, hB, hK⟩ := hrel
      clear M B R E8 E1
      have M := Lib.hid hM
      have S := Lib.hid hS
      have R := Lib.hid hR
      have B := Lib.hid hB
      have K := Lib.hid hK
      have hszr := hK.size
      have hgr := hM.lt
      clear hM hS hR hB hK
      obtain ⟨A0, m0, c0, rfl⟩ := S.out.form
      have hlen := Lib.hid (rdU_len o1 k)
      have hnx := Lib.hid (rdU_num o1 k)
      obtain ⟨lk, hlk⟩ : ∃ lk, (rdU k o1).1 = lk := ⟨_, rfl⟩
      obtain ⟨oq, hoq⟩ : ∃ oq, (rdU k o1).2 = oq := ⟨_, rfl⟩
      have S := Lib.hid (hlk ▸ S.out)
      have R := Lib.hid (hoq ▸ R.out)
      have HT1 := Lib.hid (fun hs => HTAIL.out k hk hs ⟨v, (nx : Nat), lk⟩ (by rw [hlk]) oq hoq.symm)
      rw [hoq] at HT1
      obtain ⟨vb, hbb⟩ := R.out.blk
      have hbb := Lib.hid hbb
      have i0 : (0 : Int) ≤ (k : Int) := by omega
      have hgo : (k < n8 ∧ ∃ r, oq = some r) ∨ (k < n8 ∧ oq = none) ∨ k = n8 := by
        by_cases h : k < n8
        · cases oq <;> simp [h]
        · exact .inr (.inr (by omega))
      rcases hgo with ⟨hlt, r, hr⟩ | hstop
      · subst hr
        have hl4 := gk_lt (some r) 4
        obtain ⟨nq, hnq⟩ : ∃ nq, gk (some r) 4 = nq := ⟨_, rfl⟩
        obtain ⟨or, hor⟩ : ∃ or, nk (some r) 4 = or := ⟨_, rfl⟩
        rw [hnq] at hl4
        have hlen := hlen.out
        rw [hlk] at hlen
        have hnx := Lib.hid (show rdU (k + 1) o1 = (lk ++ [(nq : Int)], or) by rw [hnx.out, hlk, hoq, hnq, hor])
        have EQ := Lib.hid hnq
        have EO := Lib.hid hor
        have hcR := hbb.out.cell
        rw [show erO (some r) = 0 from rfl] at hcR
        clear hlk hoq hnq hor hbb HT1
        have hwq : IntKind.i64.wrap (nq : Int) = (nq : Int) := IntWalk.i64_in _ (by omega)
        have i1 : (k : Int) < (n8 : Int) := by omega
        have hcM := M.out.cell
        have hfM := M.out.frozen
        have hrw := S.out.row
        go_wp2
        go_region_law ((first
          | (go_simp
             go_at_call 28
             go_must (with_reducible refine (EU32 (w := wr.drew) (R.out.go ((Kept.refl [] wr).drew))).mono ?_)
             go_must (rintro e w6 ⟨rfl, h1, k1⟩)
             go_must (rw [EQ.out])
             go_must (rw [EO.out] at h1)
             go_must (have kC := Kept.trans ((Kept.refl [b] wr).drew) k1 (fun i hi => .inl hi))
             go_must (have M := Lib.hid (M.out.kept kC (by simp; omega)))
             go_must (have hcM := M.out.cell)
             go_must (have hfM := M.out.frozen)
             go_must (have hgM := M.out.lt)
             go_must (have B := Lib.hid (B.out.kept kC (by simp; omega)))
             go_must (have S := Lib.hid (S.out.other kC (by simp; omega)))
             go_must (have K := Lib.hid (K.out.trans kC (by simp)))
             go_must (have R := Lib.hid h1)
             go_must (have hsz6 := K.out.size)
             go_must (clear h1 k1 kC))
          | (refine step_num (W0 := w5) (w0 := w6) (n := (nq : Int)) (g := w6.heap.size) rfl (.tmp 54) (.tmp 58) rfl rfl hsz6 (by omega) (by simp [Act.eval, Act.put]) S.out (by simp [Act.eval, Act.put]) (by omega) ?_
             intro A9 m9 c9 w9 h1 k1
             have M := Lib.hid (M.out.kept k1 (fun hm => by have := hrw _ hm; omega))
             have hcM := M.out.cell
             have hfM := M.out.frozen
             have hgM := M.out.lt
             have B := Lib.hid (B.out.kept k1 (fun hm => by have := hrw _ hm; omega))
             have R := Lib.hid (R.out.other k1 (fun k hk => by have := hrw k hk; omega))
             have K := Lib.hid (K.out.trans k1 (fun i hi => .inr (hrw i hi)))
             have S := Lib.hid h1
             clear h1 k1)))
        all_goals
          go_wp2
          go_roundg (n8 - (k + 1))
          case measure => omega
          case rel =>
            have kE : Kept [g] w9 (w9.setCell ⟨g, 2, none⟩ (.slice A9 m9 c9)) := (Kept.refl _ _).setCell (.inl (by simp)) _
            exact ⟨k + 1, by omega, rfl, by go_num, _, by simpa using M.out.set 2 (.slice A9 m9 c9), (S.out.other kE (by simp; omega)).cast (by rw [hnx.out]), by rw [hnx.out]; exact R.out.other kE (by simp; omega), B.out.kept kE (by simp; omega), K.out.trans kE (by simp)⟩
      · clear hnx hlen hlk hoq HTAIL
        have kR := Lib.hid R.out.kept
        have hcR := hbb.out.cell
        clear hbb
        obtain ⟨x, hx⟩ : ∃ x : ManD, (⟨v, (nx : Nat), lk⟩ : ManD) = x := ⟨_, rfl⟩
        have S := Lib.hid (show IntO w w5 wr (.slice A0 m0 c0) x.segs by rw [← hx]; exact S.out)
        have M := Lib.hid (show Blk wr g 24 #[.int .i64 x.ver, .int .i64 x.next, .slice A0 m0 c0] by rw [← hx]; exact M.out)
        have hcM := M.out.cell
        have HT1 := HT1.out (by rcases hstop with h | h <;> simp [h])
        rw [hx] at HT1
        clear hx
        have hend : endOf (oq.getD []) (erO oq) ≠ 0 ∨ oq ≠ none := by
          cases oq
          · exact .inl (by decide)
          · exact .inr (by simp)
        obtain ⟨en, hen⟩ : ∃ en, endOf (oq.getD []) (erO oq) = en := ⟨_, rfl⟩
        rw [hen] at HT1 hend
        have HGD := Lib.hid HT1
        have HE := Lib.hid hen
        clear HT1 hen
        have hways : (en ≠ 0) ∨ (oq ≠ none ∧ en = 0 ∧ mayM x = false) ∨ (oq ≠ none ∧ en = 0 ∧ mayM x = true) := by
          by_cases h : en = 0
          · right
            have h1 : oq ≠ none := by rcases hend with h1 | h1; exact absurd h h1; exact h1
            cases mayM x
            · exact .inl ⟨h1, h, rfl⟩
            · exact .inr ⟨h1, h, rfl⟩
          · exact .inl h
        clear hend
        have hst2 : (k < n8 ∧ oq = none ∧ en ≠ 0) ∨ (k = n8 ∧ en ≠ 0) ∨ (k = n8 ∧ en = 0 ∧ mayM x = false) ∨ (k = n8 ∧ en = 0 ∧ mayM x = true) := by
          rcases hstop with ⟨h1, h2⟩ | h1
          · rcases hways with h | ⟨h, _⟩ | ⟨h, _⟩
            · exact .inl ⟨h1, h2, h⟩
            · exact absurd h2 h
            · exact absurd h2 h
          · rcases hways with h | ⟨_, h⟩ | ⟨_, h⟩
            · exact .inr (.inl ⟨h1, h⟩)
            · exact .inr (.inr (.inl ⟨h1, h⟩))
            · exact .inr (.inr (.inr ⟨h1, h⟩))
        clear hstop hways
        rcases hst2 with ⟨hlt, ho, d2⟩ | ⟨hlt, d2⟩ | ⟨hlt, d2, d3⟩ | ⟨hlt, d2, d3⟩
        all_goals
          first
            | (have i1 : (k : Int) < (n8 : Int) := by omega
               have EB := Lib.hid ho
               have hcR := hcR
               rw [ho, show erO none = 2 from rfl] at hcR)
            | (have i1 : ¬ (k : Int) < (n8 : Int) := by omega
               clear hcR)
          clear hlt
          first
            | (have b2 : (en == 0) = false := by simpa using d2
               have c2 : (en != 0) = true := by simpa using d2)
            | subst d2
          first
            | (have HZ := Lib.hid (HGD.out.1 (.inl d2)))
            | (have HZ := Lib.hid (HGD.out.1 (.inr d3)))
            | (have HZ := Lib.hid (HGD.out.2 rfl d3))
          clear HGD
          go_wp2_with (first
            | (go_at_call 30
               go_must (refine (EEnd R.out).mono ?_)
               go_must (rintro e w' ⟨rfl, rfl⟩)
               go_must (rw [HE.out]))
            | (go_at_call 17
               go_must (obtain ⟨G2, hsm⟩ := IntO.small S.out.lv)
               go_must (refine (rmMay_any _ x hsm).mono ?_)
               go_must (rintro e w6 ⟨rfl, k1⟩)
               go_must (rw [d3])
               go_must (have M := Lib.hid (M.out.kept k1 (by simp)))
               go_must (have hcM := M.out.cell)
               go_must (have B := Lib.hid (B.out.kept k1 (by simp)))
               go_must (have S := Lib.hid (S.out.go k1))
               go_must (have kR := Lib.hid (kR.out.trans k1 (by simp)))
               go_must (clear k1 hsm))
            | ((with_reducible show wpList _ _ _ ({ dst := none, op := Op.store 24 (.tmp 2) (.tmp 70), type := _, pos := _, after := _, guard := _ } :: _) _ _); refine wpList_put (t := 24) rfl 24 (.tmp 2) (.tmp 70) rfl _ (by rfl) (by rfl) (by exact B.out) (by rfl) (by kernel_rfl) (by simp [Value.oneCell']) ?_; intro w9 hb9 hk9; have Hb9 := Lib.hid hb9; have Hk9 := Lib.hid hk9; clear hb9 hk9)
            | ((with_reducible show wpList _ _ _ ({ dst := none, op := Op.store 24 (.tmp 2) (.tmp 71), type := _, pos := _, after := _, guard := _ } :: _) _ _); refine wpList_put (t := 24) rfl 24 (.tmp 2) (.tmp 71) rfl _ (by rfl) (by rfl) (by exact B.out) (by rfl) (by kernel_rfl) (by simp [Value.oneCell']) ?_; intro w9 hb9 hk9; have Hb9 := Lib.hid hb9; have Hk9 := Lib.hid hk9; clear hb9 hk9))
          refine bodyPost_ret (results_cell1 (t := 24) Try.results10 (by rfl) Hb9.out _ Try.underlying24 rfl (by kernel_rfl)) rfl ?_
          rw [HZ.out.1, HZ.out.2]
          first
            | (with_reducible exact ⟨_, rfl, (S.out.other Hk9.out (by simp; omega)).lv⟩)
            | exact ⟨_, rfl, LV.nil (kR.out.trans Hk9.out (fun i hi => .inr (by simp at hi; omega)))⟩
theorem rmDecode_any (w : World) {G : List Nat} {A : Option Addr} {m c : Nat} {bs : List UInt8} (h : RdB w G (.slice A m c) bs) (hG : ∀ k ∈ G, k < w.heap.size) :
    Calls Try.prog 10 #[.slice A m c] w (ManRet w bs) := by
  by_cases d0 : (takeF bs).2.2 = 0
  · by_cases d1 : (takeF bs).2.1 < bs.length
    · exact rmDecode_bad w h hG (.inr (.inl d1))
    · by_cases d2 : (takeF bs).1.kind = 100
      · cases d3 : verB (takeF bs).1.ver
        · exact rmDecode_bad w h hG (.inr (.inr (.inr d3)))
        · exact rmDecode_ok w h hG d0 d1 d2 d3
      · exact rmDecode_bad w h hG (.inr (.inr (.inl d2)))
  · exact rmDecode_bad w h hG (.inl d0)
end Go.Proofs.Ytflbeipnnmeiaaa
