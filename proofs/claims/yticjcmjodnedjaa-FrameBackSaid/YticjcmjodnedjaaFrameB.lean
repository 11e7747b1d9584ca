/-
  The contract of the law's Bytes: frames one behind the other, and more, some bytes changed.
-/
import Derived.Test.YticjcmjodnedjaaFrameP
import Derived.Laws.OwnMore
namespace Go.Proofs.Yticjcmjodnedjaa
open Go.RowKit Go.ChangeShapes Go.WideShapes Go.Deep
set_option linter.unusedVariables false

/-- the frames that are put: among the first twelve those that are not too long -/
def selF (l : List FrameD) : List FrameD := (l.take 12).filter fun f => decide (f.body.length ≤ 300)
theorem selF_snoc (l : List FrameD) (k : Nat) (h : k < l.length) : selF (l.take (k + 1)) = selF (l.take k) ++ if k < 12 ∧ l[k].body.length ≤ 300 then [l[k]] else [] := by
  unfold selF
  by_cases hk : k < 12
  · rw [List.take_take, List.take_take, Nat.min_eq_right (by omega), Nat.min_eq_right (by omega), List.take_succ_eq_append_getElem h, List.filter_append]
    by_cases hb : l[k].body.length ≤ 300
    · simp [hk, hb]
    · simp [hb]
  · rw [List.take_take, List.take_take, Nat.min_eq_left (by omega), Nat.min_eq_left (by omega)]
    simp [hk]
theorem selF_len (l : List FrameD) : (joinF (selF l)).length ≤ 3792 := by
  have h : ∀ l : List FrameD, (∀ f ∈ l, f.body.length ≤ 300) → (joinF l).length ≤ 316 * l.length := by
    intro l
    induction l with
    | nil => intro _; simp [joinF_nil]
    | cons f l ih =>
      intro hl
      have h1 := ih (fun g hg => hl g (by simp [hg]))
      have h2 := putF_len_le f
      have h3 := hl f (by simp)
      rw [joinF_cons, List.length_append, List.length_cons]
      omega
  have h1 := h (selF l) (fun f hf => by simpa using (List.mem_filter.1 hf).2)
  have h2 : (selF l).length ≤ 12 := Nat.le_trans (List.length_filter_le _ _) (by rw [List.length_take]; omega)
  omega
/-- a row of ints -/
def IntDec (w : World) (G : List Nat) (cs : List Value) (n : Int) : Prop := cs = [.int .i64 n] ∧ -9223372036854775808 ≤ n ∧ n ≤ 9223372036854775807
theorem IntOk : DecOk 1 IntDec where
  len := by rintro w G cs f ⟨rfl, h⟩; rfl
  one := by rintro w G cs f ⟨rfl, h⟩ u hu; simp at hu; rcases hu with rfl; rfl
  kept := by rintro w w' G S cs f h hk hd; exact h
  mono := by rintro w G G' cs f h hg; exact h
abbrev IntArr (w : World) (G : List Nat) (v : Value) (l : List Int) : Prop := ArrOf w G 1 (fun w => IntDec w G) v l
theorem IntArr.kept {w w' : World} {G S : List Nat} {v : Value} {l : List Int} (h : IntArr w G v l) (hk : Kept S w w') (hd : ∀ k ∈ G, k ∉ S) : IntArr w' G v l :=
  ArrOf.kept (Dec := fun w => IntDec w G) h hk hd (fun cs a h => h)
theorem IntArr.at {w : World} {G : List Nat} {A : Option Addr} {m c : Nat} {l : List Int} (h : IntArr w G (.slice A m c) l) {k : Nat} (hk : k < l.length) :
    ∃ g o, A = some ⟨g, o, none⟩ ∧ g < w.heap.size ∧ g ∈ G ∧ w.cell? ⟨g, o + k, none⟩ = some (.int .i64 l[k]) ∧ -9223372036854775808 ≤ l[k] ∧ l[k] ≤ 9223372036854775807 := by
  obtain ⟨A', m', c', e, h1, h2, h3, h4, h5⟩ := h
  injection e with e1 e2 e3
  subst e1 e2 e3
  obtain ⟨g, o, rfl, hg, hlt, hc⟩ := h5 (by rintro rfl; simp at hk)
  obtain ⟨cs, _, ⟨rfl, hr⟩, hcell⟩ := hc k _ (List.getElem?_eq_getElem hk)
  exact ⟨g, o, rfl, hlt, hg, by simpa using hcell 0 (by omega), hr⟩
theorem ArrOf.lens {α : Type} {w : World} {G : List Nat} {n : Nat} {Dec : World → List Value → α → Prop} {A : Option Addr} {m c : Nat} {l : List α} (h : ArrOf w G n Dec (.slice A m c) l) : l.length = m ∧ m ≤ c ∧ c ≤ maxLen ∧ (A = none → m = 0 ∧ c = 0) := by
  obtain ⟨A', m', c', e, h1, h2, h3, h4, h5⟩ := h
  injection e with e1 e2 e3
  subst e1 e2 e3
  exact ⟨h1, h2, h3, h4⟩
theorem New.set {W w : World} {g n cap : Nat} {bs : List UInt8} (h : New W 5 1 (.slice (some ⟨g, 0, none⟩) n cap) n (u8s bs) w) (j : Nat) (b : UInt8) :
    New W 5 1 (.slice (some ⟨g, 0, none⟩) n cap) n (u8s (bs.set j b)) (w.setCell ⟨g, j, none⟩ (.int .u8 b.toNat)) := by
  have h1 := World.ownsRow.stored h.1 j (.int .u8 (b.toNat : Int))
  refine ⟨?_, h.2.1.trans ((Kept.refl [g] w).grown h1.2 (fun k hk => .inl (by injection hk with hk; simp [hk]))) (fun i hi => .inr ?_), h.2.2⟩
  · have e : u8s (bs.set j b) = (u8s bs).set j (.int .u8 (b.toNat : Int)) := by simp [u8s, List.map_set, u8v]
    rw [e]; exact h1.1
  · have hi : i = g := by simpa using hi
    rw [hi]; exact h.2.2 g (by simp [rowOf, Value.ownBlock])
theorem xor_u8 (a b : UInt8) : bits .xor .u8 (a.toNat : Int) (b.toNat : Int) = ((a ^^^ b).toNat : Int) := by
  rw [u8_xor_nat _ _ (by simpa using a.toNat_lt) (by simpa using b.toNat_lt)]; simp

set_option maxHeartbeats 3200000 in
theorem Bytes_any4 (w : World) {G0 G1 G2 : List Nat} {A0 A1 A2 : Option Addr} {m0 c0 m1 c1 m2 c2 : Nat} (l : List FrameD) (more : List UInt8) (ps : List Int) (x : UInt8)
    (h0 : FrArr w G0 (.slice A0 m0 c0) l) (h1 : RdB w G1 (.slice A1 m1 c1) more) (h2 : IntArr w G2 (.slice A2 m2 c2) ps) (hm1 : m1 ≤ 3000) :
    Calls Try.prog 47 #[.slice A0 m0 c0, .slice A1 m1 c1, .slice A2 m2 c2, .int .u8 x.toNat] w fun e w' => ∃ v bs, e = .returned v ∧ New w 5 1 v bs.length (u8s bs) w' ∧ bs.length ≤ 6800 ∧ (m1 = 0 → m2 = 0 → bs = joinF (selF l)) := by
  obtain ⟨a1, a2, a3, a4⟩ := h0.len
  obtain ⟨b1, b2, b3, b4⟩ := h1.len
  obtain ⟨d1, d2, d3, d4⟩ := h2.lens
  have H0 := Lib.hid h0
  have H1 := Lib.hid h1
  have H2 := Lib.hid h2
  have A1 := Lib.hid a1
  have B1 := Lib.hid b1
  have D1 := Lib.hid d1
  clear h0 h1 h2 a1 b1 d1 a4 b4 d4
  unfold maxLen at a3 b3 d3
  go_enter Try.func47, Try.ntmps47
  go_wp2
  go_loopg [9, 18] m0 (fun g b i wr => ∃ k : Nat, k ≤ m0 ∧ g = m0 - k ∧ i = .int .i64 k ∧ ∃ bs : List UInt8, New w 5 1 b bs.length (u8s bs) wr ∧ bs = joinF (selF (l.take k)))
  case atStart => exact ⟨0, by omega, by omega, rfl, [], New.nil _ _ _, rfl⟩
  case round =>
    obtain ⟨k, hk, rfl, rfl, bs, hn, hbs⟩ := hrel
    obtain ⟨B, cap, rfl, -, -⟩ := hn.1.form
    have hbl : bs.length ≤ 3792 := by rw [hbs]; exact selF_len _
    have Hbs := Lib.hid hbs
    have Hn := Lib.hid hn
    generalize hbn : bs.length = bn at *
    have Hbn := Lib.hid hbn
    clear hbs hn hbn
    by_cases hlt : k < m0
    · have hkl : k < l.length := by rw [A1.out]; exact hlt
      obtain ⟨g, o, FB, fn, fd, rfl, hg, hgG, q0, q1, q2, hr⟩ := (H0.out.kept Hn.out.2.1 (by simp)).at (k := k) hkl
      have Hsn := Lib.hid (selF_snoc l k hkl)
      have Hr := Lib.hid hr
      have Hfn := Lib.hid hr.len.1
      clear hr
      generalize l[k]'hkl = f at *
      clear hkl
      by_cases h12 : k < 12
      · by_cases h300 : fn ≤ 300
        · have Hs2 := Lib.hid (show selF (l.take (k + 1)) = selF (l.take k) ++ [f] by rw [Hsn.out, if_pos ⟨h12, by rw [Hfn.out]; exact h300⟩])
          clear Hsn
          go_wp2_with fail
          refine (rPut_any _ _ _ _ _ f (Hr.out.kept ((Kept.refl [] _).alloc _) (by simp))).mono ?_
          rintro e w2 ⟨v2, rfl, hn2⟩
          have hpl := putF_len_le f
          rw [Hfn.out] at hpl
          have hq2 : Own w2 5 1 v2 (putF f).length (u8s (putF f)) := hn2.1
          have hk2 := hn2.2.1
          generalize hpn : (putF f).length = pn at *
          obtain ⟨PB, pc, rfl, -, -⟩ := hq2.form
          have Hr2 := Lib.hid (RdB.of_own hq2)
          have Hn2 := Lib.hid ((Hn.out.go ((Kept.refl [] _).alloc (.cells #[.int .i64 f.kind, .int .i64 f.ver, .slice FB fn fd] 59))).go hk2)
          have Hpn := Lib.hid hpn
          have Hk2 := Lib.hid hk2
          clear hn2 hq2 hpn hk2
          go_wp2_with (at_builtin
                       refine wpList_app _ rfl (.tmp 36) (.tmp 37) 24 rfl elem_u8 (by rfl) Hn2.out.1 (by rfl) Hr2.out.rd (by rw [u8s_len, Hpn.out, Nat.mul_one]) (u8s_one _) (by unfold maxLen; omega) (by omega) ?_
                       intro v5 w5 ho5 hk5 hr5
                       have hn5 := Hn2.out.app ho5 hk5 hr5
                       have Hn5 := Lib.hid hn5
                       obtain ⟨A5, n5, c5, rfl⟩ := ho5.form'
                       clear ho5 hk5 hr5 hn5)
          go_roundg (m0 - (k + 1))
          case measure => omega
          case rel => exact ⟨k + 1, by omega, rfl, by go_num, bs ++ putF f, Hn5.out.cast (by rw [List.length_append, Hbn.out, Hpn.out]) rfl, by rw [Hs2.out, joinF_app, Hbs.out, joinF_cons, joinF_nil, List.append_nil]⟩
        · have Hs2 := Lib.hid (show selF (l.take (k + 1)) = selF (l.take k) by rw [Hsn.out, if_neg (by rw [Hfn.out]; omega), List.append_nil])
          clear Hsn
          go_wp2
          go_roundg (m0 - (k + 1))
          case measure => omega
          case rel => exact ⟨k + 1, by omega, rfl, by go_num, bs, (Hn.out.go ((Kept.refl [] _).alloc _)).cast Hbn.out.symm rfl, by rw [Hs2.out, Hbs.out]⟩
      · have Hs2 := Lib.hid (show selF (l.take (k + 1)) = selF (l.take k) by rw [Hsn.out, if_neg (by omega), List.append_nil])
        clear Hsn
        go_wp2
        go_roundg (m0 - (k + 1))
        case measure => omega
        case rel => exact ⟨k + 1, by omega, rfl, by go_num, bs, (Hn.out.go ((Kept.refl [] _).alloc _)).cast Hbn.out.symm rfl, by rw [Hs2.out, Hbs.out]⟩
    · obtain rfl : k = m0 := by omega
      have Hsl := Lib.hid (show bs = joinF (selF l) by rw [Hbs.out, List.take_of_length_le (by rw [A1.out]; omega)])
      have Hr1 := Lib.hid (H1.out.kept Hn.out.2.1 (by simp))
      clear Hbs
      go_wp2_with (at_builtin
                   refine wpList_app _ rfl (.tmp 40) (.tmp 41) 24 rfl elem_u8 (by rfl) Hn.out.1 (by rfl) Hr1.out.rd (by rw [u8s_len, B1.out, Nat.mul_one]) (u8s_one _) (by unfold maxLen; omega) (by omega) ?_
                   intro v5 w5 ho5 hk5 hr5
                   have hn5 := Hn.out.app ho5 hk5 hr5
                   have Hn5 := Lib.hid hn5
                   have hf5 := ho5.form
                   clear ho5 hk5 hr5 hn5)
      have hcs : m1 = 0 → bs ++ more = bs := fun h0 => by
        have hb := B1.out
        rw [h0] at hb
        rw [List.eq_nil_of_length_eq_zero hb, List.append_nil]
      have Hcs := Lib.hid hcs
      have hN : bn + m1 ≤ 6800 := by omega
      clear hcs
      generalize bn + m1 = N at *
      generalize bs ++ more = cs at *
      obtain ⟨A5, c5, rfl, hNc, hc5⟩ := hf5
      unfold maxLen at hc5
      have hA5 : 0 < N → ∃ g, A5 = some ⟨g, 0, none⟩ := fun h0 => by
        rcases Hn5.out.1.2 with ⟨h1, h2⟩ | ⟨g, cap', cur, h1, _⟩
        · omega
        · injection h1 with e1 e2 e3; exact ⟨g, e1⟩
      have HA5 := Lib.hid hA5
      clear hA5
      go_loopg [45] m2 (fun g i wr => ∃ k : Nat, k ≤ m2 ∧ g = m2 - k ∧ i = .int .i64 k ∧ ∃ bs' : List UInt8, New w 5 1 (.slice A5 N c5) N (u8s bs') wr ∧ (m2 = 0 → bs' = cs))
      case atStart => exact ⟨0, by omega, by omega, rfl, cs, Hn5.out, fun _ => rfl⟩
      case round =>
        obtain ⟨j, hj, rfl, rfl, bs', hn', hcs'⟩ := hrel
        have Hn' := Lib.hid hn'
        have Hcs' := Lib.hid hcs'
        clear hn' hcs'
        by_cases hjlt : j < m2
        · obtain ⟨g, o, rfl, hg, hgG, q0, hp0, hp1⟩ := (H2.out.kept Hn'.out.2.1 (by simp)).at (k := j) (by rw [D1.out]; exact hjlt)
          have hjl : j < ps.length := by rw [D1.out]; exact hjlt
          generalize ps[j]'hjl = p at *
          clear hjl
          by_cases h3 : j < 3
          · by_cases h0 : 0 < N
            · obtain ⟨gb, rfl⟩ := HA5.out h0
              have hi : nat64 p % N < N := Nat.mod_lt _ h0
              have hw1 := wrap_u64 p
              have hN0 : ¬ N = 0 := by omega
              have hlen := Hn'.out.len
              have hcell := Hn'.out.1.cellAt (nat64 p % N) (by omega)
              have hfz := Hn'.out.1.frozenAt (nat64 p % N)
              obtain ⟨b, hb⟩ : ∃ b, bs'[nat64 p % N]? = some b := ⟨_, List.getElem?_eq_getElem (by rw [hlen]; exact hi)⟩
              have hub : (u8s bs')[nat64 p % N]? = some (.int .u8 (b.toNat : Int)) := by simp [u8s, hb, u8v]
              rw [hub] at hcell
              have hxr := xor_u8 b x
              clear hlen hb hub
              go_wp2
              go_roundg (m2 - (j + 1))
              case measure => omega
              case rel => exact ⟨j + 1, by omega, rfl, by go_num, _, Hn'.out.set (nat64 p % N) (b ^^^ x), fun h => by omega⟩
            · obtain rfl : N = 0 := by omega
              go_wp2
              go_roundg (m2 - (j + 1))
              case measure => omega
              case rel => exact ⟨j + 1, by omega, rfl, by go_num, bs', Hn'.out, Hcs'.out⟩
          · go_wp2
            go_roundg (m2 - (j + 1))
            case measure => omega
            case rel => exact ⟨j + 1, by omega, rfl, by go_num, bs', Hn'.out, Hcs'.out⟩
        · go_wp2
          go_ret
          refine ⟨_, bs', rfl, Hn'.out.cast Hn'.out.len.symm rfl, by rw [Hn'.out.len]; omega, fun h1 h2 => ?_⟩
          rw [Hcs'.out h2, Hcs.out h1, Hsl.out]
end Go.Proofs.Yticjcmjodnedjaa
