/-
  The walk of FrameBack.
-/
import Derived.Test.YticjcmjodnedjaaLawI
namespace Go.Proofs.Yticjcmjodnedjaa
open Go.RowKit Go.ChangeShapes Go.WideShapes Go.Deep
set_option linter.unusedVariables false

theorem Own.disj {w : World} {e e' : TypeId} {s s' n n' : Nat} {v v' : Value} {xs xs' : List Value} (h : Own w e s v n xs) (h' : Own w e' s' v' n' xs') (hne : e ≠ e') : ∀ k ∈ rowOf v, k ∉ rowOf v' := by
  intro k hk hk'
  have hk := mem_rowOf.1 hk
  have hk' := mem_rowOf.1 hk'
  rcases h.2 with ⟨rfl, _⟩ | ⟨g, cap, cur, rfl, _, hg, _⟩
  · simp [Value.ownBlock] at hk
  · rcases h'.2 with ⟨rfl, _⟩ | ⟨g', cap', cur', rfl, _, hg', _⟩
    · simp [Value.ownBlock] at hk'
    · simp only [Value.ownBlock, Option.some.injEq] at hk hk'
      subst hk hk'
      exact hne (Blk.inj (t := e) hg hg').1
theorem LVx.regroup {α : Type} {Dec : World → List Nat → List Value → α → Prop} {e : TypeId} {n : Nat} {W w : World} {v : Value} {l : List α} {css : List (List Value)} {G G' : List Nat} (D : DecOk n Dec) (h : LVx Dec e n W w v l css G)
    (h1 : ∀ k ∈ G, k ∈ G') (h2 : ∀ k ∈ G', k ∉ rowOf v ∧ k < w.heap.size) : LVx Dec e n W w v l css G' := ⟨h.own, h.new, h.decs.mono D h1, h2, h.keptW⟩
theorem ArrOf.upto {α : Type} {w : World} {G : List Nat} {n : Nat} {Dec : World → List Value → α → Prop} {A : Option Addr} {m c : Nat} {l : List α} (h : ArrOf w G n Dec (.slice A m c) l) (k : Nat) (hk : k ≤ m) : ArrOf w G n Dec (.slice A k c) (l.take k) := by
  obtain ⟨A', m', c', e, h1, h2, h3, h4, h5⟩ := h
  injection e with e1 e2 e3
  subst e1 e2 e3
  refine ⟨A, k, c, rfl, by rw [List.length_take]; omega, by omega, h3, fun hA => by have := h4 hA; omega, fun hne => ?_⟩
  obtain ⟨g, o, rfl, hg, hlt, hc⟩ := h5 (by rintro rfl; simp at hne)
  exact ⟨g, o, rfl, hg, hlt, fun i a hi => hc i a (by rw [List.getElem?_take] at hi; split at hi; exact hi; cases hi)⟩

/-- where each frame ends -/
def endsF (L : List FrameD) : List Int := (List.range L.length).map fun i => ((joinF (L.take (i + 1))).length : Int)
theorem endsF_len (L : List FrameD) : (endsF L).length = L.length := by simp [endsF]
theorem endsF_snoc (L : List FrameD) (f : FrameD) : endsF (L ++ [f]) = endsF L ++ [((joinF (L ++ [f])).length : Int)] := by
  unfold endsF
  rw [List.length_append, List.length_singleton, List.range_succ, List.map_append, List.map_singleton, List.take_of_length_le (by simp)]
  congr 1
  apply List.map_congr_left
  intro i hi
  rw [List.take_append_of_le_length (by have := List.mem_range.1 hi; omega)]
theorem endsF_get (L : List FrameD) (k : Nat) (h : k < (endsF L).length) : (endsF L)[k] = ((joinF (L.take (k + 1))).length : Int) := by simp [endsF]

/-- the three rows that FrameBack lays -/
structure BackAt (W : World) (b rows ends : Value) (L : List FrameD) (w : World) : Prop where
  bs : New W 5 1 b (joinF L).length (u8s (joinF L)) w
  fs : ∃ css, LVx FrDec 59 3 W w rows L css (old W)
  es : ∃ css, LVx IntDec 3 1 W w ends (endsF L) css []
theorem BackAt.start (W : World) : BackAt W (.slice none 0 0) (.slice none 0 0) (.slice none 0 0) [] W :=
  ⟨New.nil _ _ _, ⟨[], Own.nil _ _ _, by simp [rowOf, Value.ownBlock], Decs.nil, fun k hk => ⟨by simp [rowOf, Value.ownBlock], List.mem_range.1 hk⟩, Kept.refl _ _⟩,
    ⟨[], Own.nil _ _ _, by simp [rowOf, Value.ownBlock], Decs.nil, by simp, Kept.refl _ _⟩⟩
theorem BackAt.go {W w w' : World} {b rows ends : Value} {L : List FrameD} (h : BackAt W b rows ends L w) (hk : Kept [] w w') : BackAt W b rows ends L w' := by
  obtain ⟨c1, h1⟩ := h.fs
  obtain ⟨c2, h2⟩ := h.es
  exact ⟨h.bs.go hk, ⟨c1, h1.go FrOk hk⟩, ⟨c2, h2.go IntOk hk⟩⟩
theorem BackAt.kept {W w : World} {b rows ends : Value} {L : List FrameD} (h : BackAt W b rows ends L w) : Kept [] W w := h.bs.2.1
/-- the bytes of one more frame behind the others -/
structure BackB (W : World) (b rows ends : Value) (L : List FrameD) (f : FrameD) (w : World) : Prop where
  bs : New W 5 1 b (joinF (L ++ [f])).length (u8s (joinF (L ++ [f]))) w
  fs : ∃ css, LVx FrDec 59 3 W w rows L css (old W)
  es : ∃ css, LVx IntDec 3 1 W w ends (endsF L) css []
theorem old_new {W : World} {v : Value} (h : ∀ k ∈ rowOf v, W.heap.size ≤ k) : ∀ k ∈ old W, k ∉ rowOf v := fun k hk hm => by
  have := h k hm; have := List.mem_range.1 hk; omega
theorem BackAt.bytes {W w w' : World} {b b' rows ends : Value} {L : List FrameD} {f : FrameD} {n : Nat} (h : BackAt W b rows ends L w) (hn : New W 5 1 b' n (u8s (joinF L ++ putF f)) w') (hk : Kept (rowOf b) w w') : BackB W b' rows ends L f w' := by
  obtain ⟨c1, h1⟩ := h.fs
  obtain ⟨c2, h2⟩ := h.es
  have e : joinF L ++ putF f = joinF (L ++ [f]) := by rw [joinF_app, joinF_cons, joinF_nil, List.append_nil]
  rw [e] at hn
  exact ⟨hn.cast hn.len.symm rfl, ⟨c1, h1.other FrOk hk (h1.own.disj h.bs.1 (by decide)) (old_new h.bs.2.2) h.bs.2.2⟩, ⟨c2, h2.other IntOk hk (h2.own.disj h.bs.1 (by decide)) (by simp) h.bs.2.2⟩⟩
structure BackF (W : World) (b rows ends : Value) (L : List FrameD) (f : FrameD) (w : World) : Prop where
  bs : New W 5 1 b (joinF (L ++ [f])).length (u8s (joinF (L ++ [f]))) w
  fs : ∃ css, LVx FrDec 59 3 W w rows (L ++ [f]) css (old W)
  es : ∃ css, LVx IntDec 3 1 W w ends (endsF L) css []
theorem New.other {W w w' : World} {e : TypeId} {s n : Nat} {v : Value} {xs : List Value} {S : List Nat} (h : New W e s v n xs w) (hk : Kept S w w') (h1 : ∀ k ∈ rowOf v, k ∉ S) (h2 : ∀ k ∈ S, W.heap.size ≤ k) : New W e s v n xs w' :=
  ⟨h.1.kept hk h1, h.2.1.trans hk (fun i hi => .inr (h2 i hi)), h.2.2⟩
theorem BackF.of {W w w1 w2 : World} {b rows rows' ends : Value} {L : List FrameD} {f : FrameD} {css : List (List Value)} {cs : List Value} {n : Nat} {xs : List Value} (h : BackB W b rows ends L f w) (hx : LVx FrDec 59 3 W w rows L css (old W)) (hk1 : Kept [] w w1)
    (hd : FrDec w1 (old W) cs f) (ho : Own w2 59 3 rows' n xs) (hn : n = (L ++ [f]).length) (hxs : xs = css.flatten ++ cs) (hk2 : Kept (rowOf rows) w1 w2) (hr : ∀ k ∈ rowOf rows', k ∈ rowOf rows ∨ w1.heap.size ≤ k) : BackF W b rows' ends L f w2 := by
  have hx2 := hx.app FrOk hk1 (Decs.one' hd) (fun k hk => ⟨(hx.apart k hk).1, Nat.lt_of_lt_of_le (hx.apart k hk).2 hk1.size⟩) ho (by simpa using hn) (by simpa using hxs) hk2 hr
  have hx3 := hx2.regroup (G' := old W) FrOk (fun k hk => by rcases List.mem_append.1 hk with h | h <;> exact h) (fun k hk => hx2.apart k (List.mem_append_left _ hk))
  obtain ⟨c2, h2⟩ := h.es
  have h2' := h2.go IntOk hk1
  have hb' := h.bs.go hk1
  exact ⟨hb'.other hk2 (hb'.1.disj (hx.go FrOk hk1).own (by decide)) hx.new, ⟨_, hx3⟩, ⟨c2, h2'.other IntOk hk2 (h2'.own.disj (hx.go FrOk hk1).own (by decide)) (by simp) hx.new⟩⟩
theorem BackAt.of {W w w1 w2 : World} {b rows ends ends' : Value} {L : List FrameD} {f : FrameD} {css : List (List Value)} {n : Nat} {xs : List Value} (h : BackF W b rows ends L f w) (hx : LVx IntDec 3 1 W w ends (endsF L) css []) (hk1 : Kept [] w w1)
    (hl : (joinF (L ++ [f])).length ≤ 9223372036854775807) (ho : Own w2 3 1 ends' n xs) (hn : n = (endsF L).length + 1) (hxs : xs = css.flatten ++ [.int .i64 ((joinF (L ++ [f])).length : Int)]) (hk2 : Kept (rowOf ends) w1 w2) (hr : ∀ k ∈ rowOf ends', k ∈ rowOf ends ∨ w1.heap.size ≤ k) : BackAt W b rows ends' (L ++ [f]) w2 := by
  have hx2 := hx.app IntOk hk1 (G' := []) (css' := [[.int .i64 ((joinF (L ++ [f])).length : Int)]]) (Decs.one' ⟨rfl, by omega, by omega⟩) (by simp) ho (by simpa using hn) (by simpa using hxs) hk2 hr
  rw [← endsF_snoc] at hx2
  obtain ⟨c1, h1⟩ := h.fs
  have h1' := h1.go FrOk hk1
  have hb' := h.bs.go hk1
  have hxg := (hx.go IntOk hk1).own
  exact ⟨hb'.other hk2 (hb'.1.disj hxg (by decide)) hx.new, ⟨c1, h1'.other FrOk hk2 (h1'.own.disj hxg (by decide)) (old_new hx.new) hx.new⟩, ⟨_, hx2⟩⟩
theorem info_int : (Try.prog.info? 3).map (fun i => (i.zero, i.size, i.bytes)) = some (some (.int .i64 0), 1, 8) := by kernel_rfl
theorem elem_int : Elem Try.prog 66 3 1 8 := Elem.mk' Try.underlying66 info_int rfl (by omega)
theorem okF_snoc (l : List FrameD) (k : Nat) (h : k < l.length) : okF (l.take (k + 1)) = okF (l.take k) ++ if k < 12 ∧ l[k].body.length ≤ 300 ∧ putE l[k] = 0 then [l[k]] else [] := by
  unfold okF
  rw [selF_snoc l k h, List.filter_append]
  by_cases h1 : k < 12 ∧ l[k].body.length ≤ 300
  · by_cases h2 : putE l[k] = 0
    · simp [h1, h2]
    · simp [h1, h2]
  · rw [if_neg h1, if_neg (fun h => h1 ⟨h.1, h.2.1⟩)]; rfl
theorem okF_len (l : List FrameD) : (okF l).length ≤ 12 := Nat.le_trans (List.length_filter_le _ _) (Nat.le_trans (List.length_filter_le _ _) (by rw [List.length_take]; omega))
theorem join_okF_len (l : List FrameD) : (joinF (okF l)).length ≤ 3792 := by
  have h := selF_len l
  rw [join_ok (selF l)] at h
  exact h

set_option maxHeartbeats 3200000 in
set_option maxRecDepth 100000 in
theorem FrameBack_any (W : World) {A0 : Option Addr} {m0 c0 : Nat} (l : List FrameD) (cut : Int) (h0 : FrArr W (old W) (.slice A0 m0 c0) l) :
    Calls Try.prog 13 #[.slice A0 m0 c0, .int .i64 cut] W fun e w' => e = .returned (.bool true) ∧ Kept [] W w' := by
  obtain ⟨a1, a2, a3, a4⟩ := h0.len
  have H0 := Lib.hid h0
  have A1 := Lib.hid a1
  clear h0 a1 a4
  unfold maxLen at a3
  go_enter Try.func13, Try.ntmps13
  go_wp2
  go_loopg [5, 6, 7, 22] m0 (fun g b rows ends i wr => ∃ k : Nat, k ≤ m0 ∧ g = m0 - k ∧ i = .int .i64 k ∧ BackAt W b rows ends (okF (l.take k)) wr)
  case atStart => exact ⟨0, by omega, by omega, rfl, BackAt.start _⟩
  case round =>
    obtain ⟨k, hk, rfl, rfl, hb⟩ := hrel
    have Hb := Lib.hid hb
    clear hb
    obtain ⟨c1, hx1⟩ := Hb.out.fs
    obtain ⟨c2, hx2⟩ := Hb.out.es
    have hbl := join_okF_len (l.take k)
    have hfl := okF_len (l.take k)
    have hel := endsF_len (okF (l.take k))
    obtain ⟨B1, d1, rfl, -, -⟩ := Hb.out.bs.1.form
    obtain ⟨B2, d2, rfl, -, -⟩ := hx1.own.form
    obtain ⟨B3, d3, rfl, -, -⟩ := hx2.own.form
    have Hx1 := Lib.hid hx1
    have Hx2 := Lib.hid hx2
    have Hkw := Lib.hid Hb.out.kept
    clear hx1 hx2
    by_cases hlt : k < m0
    · have hkl : k < l.length := by rw [A1.out]; exact hlt
      obtain ⟨g, o, FB, fn, fd, rfl, hg, hgG, q0, q1, q2, hr⟩ := (H0.out.kept Hkw.out (by simp)).at (k := k) hkl
      have Hsn := Lib.hid (okF_snoc l k hkl)
      have Hr := Lib.hid hr
      have Hfn := Lib.hid hr.len.1
      clear hr
      generalize l[k]'hkl = f at *
      clear hkl
      generalize okF (l.take k) = L at *
      rw [hel] at *
      generalize hL : L.length = Ln at *
      generalize hJ : (joinF L).length = Jn at *
      have HL := Lib.hid hL
      have HJ := Lib.hid hJ
      have Hel := Lib.hid hel
      clear hL hJ hel
      by_cases h12 : k < 12
      · by_cases h300 : fn ≤ 300
        · go_wp2_with fail
          refine (Put_any _ _ _ _ _ f (Hr.out.kept ((Kept.refl [] _).alloc _) (by simp))).mono ?_
          rintro e w2 ⟨v2, rfl, hn2⟩
          by_cases hpe : putE f = 0
          · have Hs2 := Lib.hid (show okF (l.take (k + 1)) = L ++ [f] by rw [Hsn.out, if_pos ⟨h12, by rw [Hfn.out]; exact h300, hpe⟩])
            have hpl := putF_len_le f
            rw [Hfn.out] at hpl
            rw [hpe]
            have hk2 := ((Kept.refl [] wr).alloc (.cells #[.int .i64 f.kind, .int .i64 f.ver, .slice FB fn fd] 59)).trans hn2.2.1 (by simp)
            have Ha2 := Lib.hid (Hb.out.go hk2)
            have Hx12 := Lib.hid (Hx1.out.go FrOk hk2)
            have Hx22 := Lib.hid (Hx2.out.go IntOk hk2)
            have Hr2 := Lib.hid (Hr.out.kept hk2 (by simp))
            have Hblk2 := Lib.hid ((Blk.new wr 59 #[.int .i64 f.kind, .int .i64 f.ver, .slice FB fn fd]).kept hn2.2.1 (by simp))
            have ho2 := hn2.1
            generalize hpn : (putF f).length = pn at *
            obtain ⟨PB, pc, rfl, -, -⟩ := ho2.form
            have Hp2 := Lib.hid (RdB.of_own ho2)
            have Hpn := Lib.hid hpn
            have Hjj := Lib.hid (show (joinF (L ++ [f])).length = Jn + pn by rw [joinF_app, joinF_cons, joinF_nil, List.append_nil, List.length_append, HJ.out, hpn])
            have HJown := Lib.hid (show New W 5 1 (.slice B1 Jn d1) Jn (u8s (joinF L)) w2 from (Hb.out.go hk2).bs.cast HJ.out rfl)
            have Hk2 := Lib.hid hk2
            clear hn2 ho2 hpn hk2 hpe Hsn
            have hJp : Jn + pn ≤ 4200 := by omega
            go_wp2_with (first
              | (at_builtin
                 refine wpList_app _ rfl (.tmp 42) (.tmp 43) 24 rfl elem_u8 (by rfl) HJown.out.1 (by rfl) Hp2.out.rd (by rw [u8s_len, Hpn.out, Nat.mul_one]) (u8s_one _) (by unfold maxLen; omega) (by omega) ?_
                 intro v3 w3 ho3 hk3 hr3
                 have hc3 := Ha2.out.bytes (HJown.out.app ho3 hk3 hr3) hk3
                 have Hc3 := Lib.hid hc3
                 have hb3 := Hblk2.out.kept hk3 (HJown.out.1.ne_blk Hblk2.out (by decide))
                 obtain ⟨b0, b1, b2⟩ := hb3.at3
                 have Hx13 := Lib.hid (Hx12.out.other FrOk hk3 (Hx12.out.own.disj HJown.out.1 (by decide)) (old_new HJown.out.2.2) HJown.out.2.2)
                 have Hx23 := Lib.hid (Hx22.out.other IntOk hk3 (Hx22.out.own.disj HJown.out.1 (by decide)) (by simp) HJown.out.2.2)
                 have Hr3 := Lib.hid (Hr2.out.kept hk3 (old_new HJown.out.2.2))
                 generalize hN : Jn + pn = N at *
                 have HN := Lib.hid hN
                 obtain ⟨B13, d13, rfl, -, -⟩ := ho3.form
                 clear ho3 hk3 hr3 hc3 hN hb3)
              | (at_builtin
                 refine wpList_app _ rfl (.tmp 45) (.tmp 47) 65 rfl elem_frame (by rfl) ((Hx13.out.go FrOk ((Kept.refl [] _).alloc _)).own) (by rfl) (Rd.laid _ [.int .i64 f.kind, .int .i64 f.ver, .slice FB fn fd] _) rfl (by simp [Value.oneCell']) (by unfold maxLen; rw [HL.out]; omega) (by rw [HL.out]; omega) ?_
                 intro v4 w4 ho4 hk4 hr4
                 have hka := (Kept.refl [] w3).alloc (.cells #[.int .i64 f.kind, .int .i64 f.ver, .slice FB fn fd] 59)
                 have hc4 := BackF.of Hc3.out Hx13.out hka ⟨FB, fn, fd, rfl, Hr3.out.kept hka (by simp)⟩ ho4 (by simp) rfl hk4 hr4
                 have Hc4 := Lib.hid hc4
                 have Hx24 := Lib.hid ((Hx23.out.go IntOk hka).other IntOk hk4 ((Hx23.out.go IntOk hka).own.disj (Hx13.out.go FrOk hka).own (by decide)) (by simp) Hx13.out.new)
                 obtain ⟨B24, n24, d24, rfl⟩ := ho4.form'
                 clear ho4 hk4 hr4 hka hc4 b0 b1 b2)
              | (at_builtin
                 refine wpList_app _ rfl (.tmp 49) (.tmp 52) 66 rfl elem_int (by rfl) ((Hx24.out.go IntOk ((Kept.refl [] _).alloc _)).own) (by rfl) (Rd.laid _ [.int .i64 (N : Int)] _) rfl (by simp [Value.oneCell']) (by unfold maxLen; rw [endsF_len, HL.out]; omega) (by rw [endsF_len, HL.out]; omega) ?_
                 intro v5 w5 ho5 hk5 hr5
                 have hka := (Kept.refl [] w4).alloc (.cells #[.int .i64 (N : Int)] 3)
                 have hc5 := BackAt.of Hc4.out Hx24.out hka (by rw [Hjj.out]; omega) ho5 rfl (by rw [Hjj.out]) hk5 hr5
                 have Hc5 := Lib.hid hc5
                 obtain ⟨B35, n35, d35, rfl⟩ := ho5.form'
                 clear ho5 hk5 hr5 hka hc5))
            go_roundg (m0 - (k + 1))
            case measure => omega
            case rel => exact ⟨k + 1, by omega, rfl, by go_num, by rw [Hs2.out]; exact Hc5.out⟩
          · have Hs2 := Lib.hid (show okF (l.take (k + 1)) = L by rw [Hsn.out, if_neg (fun h => hpe h.2.2), List.append_nil])
            have hk2 := ((Kept.refl [] wr).alloc (.cells #[.int .i64 f.kind, .int .i64 f.ver, .slice FB fn fd] 59)).trans hn2.2.1 (by simp)
            have Ha2 := Lib.hid (Hb.out.go hk2)
            have hne : (putE f != 0) = true := by simp [hpe]
            obtain ⟨PB, pn, pc, rfl⟩ := hn2.1.form'
            clear hn2 hk2 hpe Hsn
            go_wp2
            go_roundg (m0 - (k + 1))
            case measure => omega
            case rel => exact ⟨k + 1, by omega, rfl, by go_num, by rw [Hs2.out]; exact Ha2.out⟩
        · have Hs2 := Lib.hid (show okF (l.take (k + 1)) = L by rw [Hsn.out, if_neg (fun h => h300 (by rw [← Hfn.out]; exact h.2.1)), List.append_nil])
          clear Hsn
          go_wp2
          go_roundg (m0 - (k + 1))
          case measure => omega
          case rel => exact ⟨k + 1, by omega, rfl, by go_num, by rw [Hs2.out]; exact Hb.out.go ((Kept.refl [] _).alloc _)⟩
      · have Hs2 := Lib.hid (show okF (l.take (k + 1)) = L by rw [Hsn.out, if_neg (fun h => h12 h.1), List.append_nil])
        clear Hsn
        go_wp2
        go_roundg (m0 - (k + 1))
        case measure => omega
        case rel => exact ⟨k + 1, by omega, rfl, by go_num, by rw [Hs2.out]; exact Hb.out.go ((Kept.refl [] _).alloc _)⟩
    · obtain rfl : k = m0 := by omega
      rw [List.take_of_length_le (by rw [A1.out]; omega)] at *
      have Hok := Lib.hid (okF_ok l)
      have S1 := scan_join (okF l) [] (okF_ok l)
      rw [List.append_nil, scanF_nil, List.append_nil] at S1
      generalize okF l = L at *
      rw [hel] at *
      generalize hL : L.length = Ln at *
      generalize hJ : (joinF L).length = Jn at *
      rw [Nat.add_zero] at S1
      have hS1 := Lib.hid S1
      have HL := Lib.hid hL
      have HJ := Lib.hid hJ
      have HB := Lib.hid (show New W 5 1 (.slice B1 Jn d1) Jn (u8s (joinF L)) wr from Hb.out.bs.cast HJ.out rfl)
      obtain ⟨hJd, hdm⟩ : Jn ≤ d1 ∧ d1 ≤ maxLen := by
        obtain ⟨A, cap, h1, h2, h3⟩ := HB.out.1.form
        injection h1 with _ _ h1
        subst h1
        exact ⟨h2, h3⟩
      unfold maxLen at hdm
      have HF := Lib.hid (Hx1.out.arr FrOk)
      have HE := Lib.hid (Hx2.out.arr IntOk)
      obtain ⟨hLd, hdm2, -⟩ := HF.out.lens.2
      obtain ⟨hLd3, hdm3, -⟩ := HE.out.lens.2
      unfold maxLen at hdm2 hdm3
      clear hL hJ hel S1
      go_wp2_with fail
      refine (Scan_any _ _ _ _ _ _ (RdB.of_own HB.out.1) (by omega)).mono ?_
      rintro e w3 ⟨v3, rfl, hv3⟩
      rw [hS1.out] at hv3 ⊢
      dsimp only at hv3 ⊢
      obtain ⟨G3, ha3, -⟩ := hv3.arr FrOk
      obtain ⟨P3, n3, e3, rfl, -⟩ := id ha3
      have Ha3 := Lib.hid ha3
      have HF3 := Lib.hid (FrArr.kept HF.out hv3.kept (by simp))
      have HE3 := Lib.hid (IntArr.kept HE.out hv3.kept (by simp))
      have Hk3 := Lib.hid (Hkw.out.trans hv3.kept (by simp))
      have Hr3 := Lib.hid ((RdB.of_own HB.out.1).kept hv3.kept (by simp))
      clear hv3 ha3
      by_cases hJ0 : Jn = 0
      · subst hJ0
        go_wp2_with (first
          | (go_at_call 51
             refine (rSames_any _ _ _ Ha3.out HF3.out).mono ?_
             rintro e w4 ⟨rfl, hk4⟩
             rw [sameFs_refl]
             have Hk4 := Lib.hid (Hk3.out.trans hk4 (by simp))
             clear hk4)
          | (go_at_call 42
             refine (awake4_any _).mono ?_
             rintro e w5 ⟨rfl, hk5⟩
             have Hk5 := Lib.hid (Hk4.out.trans hk5 (by simp))
             clear hk5))
        go_ret
        exact ⟨rfl, Hk5.out⟩
      · have hJz : ((Jn : Int) == 0) = false := by simp; omega
        have hw := wrap_u64 cut
        obtain ⟨q, hq, hq2⟩ : ∃ q : Nat, ((nat64 cut : Nat) : Int) % (Jn : Int) = (q : Int) ∧ q < Jn := ⟨nat64 cut % Jn, by simp, Nat.mod_lt _ (by omega)⟩
        have Hq := Lib.hid hq
        have hqb : ((nat64 cut : Nat) : Int) % (Jn : Int) ≤ 3792 := by omega
        have hqb0 : 0 ≤ ((nat64 cut : Nat) : Int) % (Jn : Int) := by omega
        clear hq
        go_wp2_with (go_at_call 51
                     refine (rSames_any _ _ _ Ha3.out HF3.out).mono ?_
                     rintro e w4 ⟨rfl, hk4⟩
                     rw [sameFs_refl]
                     have HF4 := Lib.hid (FrArr.kept HF3.out hk4 (by simp))
                     have HE4 := Lib.hid (IntArr.kept HE3.out hk4 (by simp))
                     have Hk4 := Lib.hid (Hk3.out.trans hk4 (by simp))
                     have Hr4 := Lib.hid (Hr3.out.kept hk4 (by simp))
                     clear hk4)
        simp only [Hq.out]
        clear hw
        go_loop [15] (fun i => ∃ k : Nat, k ≤ Ln ∧ i = .int .i64 k ∧ (joinF (L.take k)).length ≤ q) (fun i => Ln - (intOf i).toNat)
        case atStart => exact ⟨0, by omega, rfl, by simp [joinF_nil]⟩
        case round =>
          obtain ⟨j, hj, rfl, hjq⟩ := hrel
          by_cases hgo : j < Ln ∧ (joinF (L.take (j + 1))).length ≤ q
          · obtain ⟨g1, g2⟩ := hgo
            obtain ⟨g, o, rfl, hg, hgG, q0, -⟩ := HE4.out.at (k := j) (by rw [endsF_len, HL.out]; exact g1)
            rw [endsF_get] at q0
            have Hg2 := Lib.hid g2
            generalize (joinF (L.take (j + 1))).length = z at q0 g2
            clear hjq
            go_wp2
            go_round
            case rel => exact ⟨j + 1, by omega, by go_num, Hg2.out⟩
            case measure => simp [intOf]; omega
          · have g1 : j < Ln := by
              rcases Nat.lt_or_ge j Ln with h | h
              · exact h
              · rw [List.take_of_length_le (by rw [HL.out]; omega), HJ.out] at hjq
                omega
            have hz : q < (joinF (L.take (j + 1))).length := by
              have : ¬ (joinF (L.take (j + 1))).length ≤ q := fun h2 => hgo ⟨g1, h2⟩
              omega
            have hsc := scan_cut L j q Hok.out (by rw [HJ.out]; omega) (by rw [HL.out]; omega) hjq (fun _ => hz)
            have HR := Lib.hid (HF4.out.upto j (by omega))
            have Hcut := Lib.hid (Hr4.out.upto q (by omega))
            obtain ⟨g, o, rfl, hg, hgG, q0, -⟩ := HE4.out.at (k := j) (by rw [endsF_len, HL.out]; exact g1)
            rw [endsF_get] at q0
            generalize (joinF (L.take (j + 1))).length = z at q0 hz
            have hprev : ∀ i, j = i + 1 → w4.cell? ⟨g, o + i, none⟩ = some (.int .i64 ((joinF (L.take j)).length : Nat)) := fun i hi => by
              obtain ⟨g', o', hgo, hg', hgG', q0', -⟩ := HE4.out.at (k := i) (by rw [endsF_len, HL.out]; omega)
              injection hgo with hgo
              injection hgo with e1 e2
              subst e1 e2
              rw [endsF_get, ← hi] at q0'
              exact q0'
            have hwz : j = 0 → (joinF (L.take j)).length = 0 := fun h => by rw [h]; rfl
            generalize (joinF (L.take j)).length = wn at hsc hjq hprev hwz
            generalize L.take j = R at hsc HR
            have Hz := Lib.hid hgo
            clear hgo Hz
            by_cases hqw : q = wn
            all_goals
              by_cases hj0 : j = 0
              all_goals
                first
                  | (obtain rfl := hwz hj0
                     subst hj0
                     rw [Nat.add_zero] at q0
                     clear hprev hwz)
                  | (obtain ⟨i, rfl⟩ : ∃ i, j = i + 1 := ⟨j - 1, by omega⟩
                     have q1 := hprev i rfl
                     clear hprev hwz)
                first
                  | (rw [if_pos hqw] at hsc
                     have hb : ((wn : Int) == (q : Int)) = true := by simp; omega)
                  | (rw [if_pos hqw] at hsc
                     have hb : ((0 : Int) == (q : Int)) = true := by simp; omega)
                  | (rw [if_neg hqw] at hsc
                     have hb : ((wn : Int) == (q : Int)) = false := by simp; omega)
                  | (rw [if_neg hqw] at hsc
                     have hb : ((0 : Int) == (q : Int)) = false := by simp; omega)
                have S2 := Lib.hid hsc
                clear hsc hqw
                go_wp2_with fail
                refine (Scan_any _ _ _ _ _ _ Hcut.out (by omega)).mono ?_
                rintro e w5 ⟨v5, rfl, hv5⟩
                rw [S2.out] at hv5 ⊢
                dsimp only at hv5 ⊢
                obtain ⟨G5, ha5, -⟩ := hv5.arr FrOk
                obtain ⟨P5, n5, e5, rfl, -⟩ := id ha5
                have Ha5 := Lib.hid ha5
                have HR5 := Lib.hid (FrArr.kept HR.out hv5.kept (by simp))
                have Hk5 := Lib.hid (Hk4.out.trans hv5.kept (by simp))
                clear hv5 ha5
                go_wp2_with (first
                  | (go_at_call 51
                     refine (rSames_any _ _ _ Ha5.out HR5.out).mono ?_
                     rintro e w6 ⟨rfl, hk6⟩
                     rw [sameFs_refl]
                     have Hk6 := Lib.hid (Hk5.out.trans hk6 (by simp))
                     clear hk6)
                  | (go_at_call 42
                     refine (awake4_any _).mono ?_
                     rintro e w7 ⟨rfl, hk7⟩
                     have Hk7 := Lib.hid (Hk6.out.trans hk7 (by simp))
                     clear hk7))
                go_ret
                exact ⟨rfl, Hk7.out⟩

theorem FrameBack_walk {H : Type} {enc : TypeId × Value → H} {S : Prop} (W : World) (base : Nat) (v0 : Value) (d0 : DataW H) (p0 : List MemPlace) (v1 : Value) (d1 : DataW H) (p1 : List MemPlace)
    (hv0 : Value.okWide Try.prog W .any base 65 v0) (hv1 : Value.okWide Try.prog W .any base 3 v1)
    (h0 : DataW.Trod enc Try.prog W 0 (fun _ => true) true 65 v0 d0 p0) (h1 : DataW.Trod enc Try.prog W 0 (fun _ => true) true 3 v1 d1 p1) (_ : S) :
    Calls Try.prog 13 #[v0, v1] W fun e W' => e = .returned (.bool true) ∧ Below W.heap.size W W' := by
  obtain ⟨l, hl, _⟩ := open_frames hv0 h0
  obtain ⟨n, rfl, rfl, rfl, _⟩ := open_int Try.underlying3 hv1 h1
  obtain ⟨A0, m0, c0, rfl, _⟩ := id hl
  exact (FrameBack_any W l n hl).mono fun e W' ⟨h, hk⟩ => ⟨h, hk.below (Nat.le_refl _) (by simp)⟩
end Go.Proofs.Yticjcmjodnedjaa
