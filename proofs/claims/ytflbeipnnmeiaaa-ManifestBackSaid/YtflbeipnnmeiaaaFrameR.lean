
/-
  Contracts of the reference's Put and u32.
-/
import Derived.Test.YtflbeipnnmeiaaaFrameT
import Derived.ArgAppend
namespace Go.Proofs.Ytflbeipnnmeiaaa
open Go.RowKit
set_option linter.unusedVariables false

theorem New.go {W w w' : World} {e : TypeId} {s n : Nat} {v : Value} {xs : List Value} (h : New W e s v n xs w) (hk : Kept [] w w') : New W e s v n xs w' :=
  ⟨h.1.kept hk (by simp), h.2.1.trans hk (by simp), h.2.2⟩
theorem New.app {W w w' : World} {v v' : Value} {n n' : Nat} {bs cs : List UInt8} (h : New W 5 1 v n (u8s bs) w) (ho : Own w' 5 1 v' n' (u8s bs ++ u8s cs)) (hk : Kept (rowOf v) w w')
    (hr : ∀ k ∈ rowOf v', k ∈ rowOf v ∨ w.heap.size ≤ k) : New W 5 1 v' n' (u8s (bs ++ cs)) w' := by
  refine ⟨by rw [show u8s (bs ++ cs) = u8s bs ++ u8s cs by simp [u8s]]; exact ho, h.2.1.trans hk (fun i hi => .inr (h.2.2 i hi)), fun k hk' => ?_⟩
  rcases hr k hk' with h1 | h1
  · exact h.2.2 k h1
  · have := h.2.1.size; omega
theorem New.len {W w : World} {v : Value} {n : Nat} {bs : List UInt8} (h : New W 5 1 v n (u8s bs) w) : bs.length = n := by
  have := h.1.1
  simpa [u8s] using this
theorem New.wide {W W' w : World} {e : TypeId} {s n : Nat} {v : Value} {xs : List Value} (h : New W' e s v n xs w) (hk : Kept [] W W') : New W e s v n xs w :=
  ⟨h.1, hk.trans h.2.1 (by simp), fun k hk' => by have := h.2.2 k hk'; have := hk.size; omega⟩

theorem Rd.holds {w : World} {A : Option Addr} {xs : List Value} (h : Rd w A xs) : ∀ b, A = some b → ∀ j u, xs[j]? = some u → w.cell? (b.add j) = some u := by
  intro b hb j u hu
  obtain ⟨g, o, h1, h2⟩ := h (by rintro rfl; simp at hu)
  rw [hb] at h1
  injection h1 with h1
  subst h1
  rw [Addr.add_lit]
  exact h2 j u hu
theorem New.of_row {w w' : World} {e : TypeId} {s n : Nat} {v : Value} {xs : List Value} (h : w'.ownsRow w.heap.size e s v n xs) (hk : w.grownBy w' none) : New w e s v n xs w' := by
  refine ⟨?_, (Kept.refl [] w).grown hk (fun k hk => by cases hk), fun k hk => (World.ownsRow.lt h k (mem_rowOf.1 hk)).1⟩
  rcases h.2 with h1 | ⟨g, cap, cur, h1, h2, h3⟩
  · exact ⟨h.1, .inl h1⟩
  · exact ⟨h.1, .inr ⟨g, cap, cur, h1, Nat.zero_le _, h3⟩⟩
/-- append onto a slice that has no room: a block of its own -/
theorem wpList_grow {P : Program} {w : World} {ops : Array Oper} {rest : List Oper} {o : Oper} {a : Act} {Q : Exit → Act → World → Prop} (hgd : o.guard = none) (s x : Operand) (t : TypeId)
    (ho : o.op = .call { callee := .builtin .append, args := #[s, x], argTypes := #[t, t] })
    {e : TypeId} {size bytes : Nat} (E : Elem P t e size bytes) {A : Option Addr} {n cap : Nat} {olds : List Value} (hs : a.eval s = .slice A n cap) (hA : A = none → n = 0 ∧ cap = 0) (hr0 : Rd w A olds) (hl0 : olds.length = n * size)
    {B : Option Addr} {m c : Nat} {news : List Value} (hx : a.eval x = .slice B m c) (hr : Rd w B news) (hl : news.length = m * size) (h1 : ∀ u ∈ news, u.oneCell' = true) (hm : 0 < m) (hfull : cap < n + m)
    (h63 : n + m ≤ maxLen) (hbytes : (n + m) * bytes ≤ 140737488355328)
    (h : ∀ v' w', New w e size v' (n + m) (olds ++ news) w' → wpList P ops Q rest (a.put o.dst v') w') : wpList P ops Q (o :: rest) a w := by
  obtain ⟨i, z, e1, e2, e3, e4, e5, e6, e7⟩ := E.ex
  have hne : news ≠ [] := by
    rintro rfl
    have : m * size = 0 := by simpa using hl.symm
    rcases Nat.mul_eq_zero.1 this with h | h <;> omega
  obtain ⟨g, q, rfl, hc⟩ := hr hne
  exact wpList_append_grows w hgd s x t ho e i z size bytes e1 e2 e3 e4 e5 e6 e7 A n cap olds hs hA hl0 hr0.holds ⟨g, q, none⟩ m c news hx hl (fun j u hu => by rw [Addr.add_lit]; exact hc j u hu) h1 hfull h63 hbytes (fun v' w' q1 q2 => h v' w' (New.of_row q1 q2))

set_option maxHeartbeats 1600000 in
theorem rPut_any (w : World) (G : List Nat) (A : Option Addr) (m c : Nat) (f : FrameD) (h : RdB w G (.slice A m c) f.body) :
    Calls Try.prog 8 #[.agg #[.int .i64 f.kind, .int .i64 f.ver, .slice A m c]] w fun e w' => ∃ v, e = .returned (.tuple #[v, .int .i64 (putE f)]) ∧ New w 5 1 v (putF f).length (u8s (putF f)) w' := by
  have hm := h.len
  have H := Lib.hid h
  have Hm := Lib.hid hm.1
  have hcm := hm.2.2.1
  have hmc := hm.2.1
  unfold maxLen at hcm
  clear h hm
  by_cases hbad : f.kind < 0 ∨ 255 < f.kind ∨ f.ver < 0 ∨ 255 < f.ver
  · have he : putE f = 1 := by simp [putE, hbad]
    have hf : putF f = [] := by simp [putF, he]
    rw [he, hf]
    clear he hf
    by_cases k0 : f.kind < 0
    · go_enter Try.func8, Try.ntmps8
      go_wp2
      go_ret2
      exact ⟨_, rfl, Own.nil _ _ _, (Kept.refl _ _).alloc _, by simp [rowOf, Value.ownBlock]⟩
    · by_cases k1 : 255 < f.kind
      · go_enter Try.func8, Try.ntmps8
        go_wp2
        go_ret2
        exact ⟨_, rfl, Own.nil _ _ _, (Kept.refl _ _).alloc _, by simp [rowOf, Value.ownBlock]⟩
      · by_cases k2 : f.ver < 0
        · go_enter Try.func8, Try.ntmps8
          go_wp2
          go_ret2
          exact ⟨_, rfl, Own.nil _ _ _, (Kept.refl _ _).alloc _, by simp [rowOf, Value.ownBlock]⟩
        · have k3 : 255 < f.ver := by omega
          clear hbad
          go_enter Try.func8, Try.ntmps8
          go_wp2
          go_ret2
          exact ⟨_, rfl, Own.nil _ _ _, (Kept.refl _ _).alloc _, by simp [rowOf, Value.ownBlock]⟩
  · have k0 : 0 ≤ f.kind := by omega
    have k1 : f.kind ≤ 255 := by omega
    have k2 : 0 ≤ f.ver := by omega
    have k3 : f.ver ≤ 255 := by omega
    by_cases hl : 4096 < m
    · have he : putE f = 4 := by rw [← Hm.out] at hl; simp [putE, hbad, hl]
      have hf : putF f = [] := by simp [putF, he]
      rw [he, hf]
      clear he hf hbad
      go_enter Try.func8, Try.ntmps8
      go_wp2
      go_ret2
      exact ⟨_, rfl, Own.nil _ _ _, (Kept.refl _ _).alloc _, by simp [rowOf, Value.ownBlock]⟩
    · have he : putE f = 0 := by rw [← Hm.out] at hl; simp [putE, hbad, hl]
      have hf : putF f = putB f := by simp [putF, he]
      rw [he, hf]
      have hlen := putB_len f
      rw [hlen, Hm.out]
      have Hpb : Hid (putB f = head8 f ++ beK (crc (head8 f)) 4 4 ++ beK (crc f.body) 4 4 ++ f.body) := rfl
      have Hh : Hid ([103, 111, 105, 116] ++ (beK (nat64 f.kind) 1 1 ++ beK (nat64 f.ver) 1 1) ++ beK (nat64 m) 2 2 = head8 f) := Lib.hid (by rw [← Hm.out]; unfold head8; simp)
      have Hkv : Hid (u8s [103, 111, 105, 116] ++ [.int .u8 f.kind, .int .u8 f.ver] = u8s [103, 111, 105, 116] ++ u8s (beK (nat64 f.kind) 1 1 ++ beK (nat64 f.ver) 1 1)) := Lib.hid <| by
        have h1 := be1 f.kind
        have h2 := be1 f.ver
        rw [Int.emod_eq_of_lt k0 (by omega)] at h1
        rw [Int.emod_eq_of_lt k2 (by omega)] at h2
        rw [show u8s (beK (nat64 f.kind) 1 1 ++ beK (nat64 f.ver) 1 1) = u8s (beK (nat64 f.kind) 1 1) ++ u8s (beK (nat64 f.ver) 1 1) by simp [u8s], h1, h2]
        rfl
      clear he hf hbad hlen
      have hb0 := Blk.new w 27 #[.int .i64 f.kind, .int .i64 f.ver, .slice A m c]
      have Hb0 := Lib.hid hb0
      clear hb0
      go_enter Try.func8, Try.ntmps8
      have hcv := Lib.run_convert_bytes_const (P := Try.prog) (w.alloc (.cells #[.int .i64 f.kind, .int .i64 f.ver, .slice A m c] 27)) 25 5 #[.int .u8 103, .int .u8 111, .int .u8 105, .int .u8 116] 4 4 Try.underlying25 Try.underlying5
      rw [World.size_alloc] at hcv
      have hl0 := RdB.litf (w.alloc (.cells #[.int .i64 f.kind, .int .i64 f.ver, .slice A m c] 27)) (4, 5) [103, 111, 105, 116] 4 rfl (by unfold maxLen; omega)
      rw [World.size_alloc] at hl0
      have Hl0 := Lib.hid hl0
      have hr2 := Rd.new ((w.alloc (.cells #[.int .i64 f.kind, .int .i64 f.ver, .slice A m c] 27)).alloc (.cells #[.int .u8 103, .int .u8 111, .int .u8 105, .int .u8 116] 5 (4, 5))) #[.int .u8 f.kind, .int .u8 f.ver] 5
      rw [World.size_alloc, World.size_alloc] at hr2
      have Hr2 := Lib.hid hr2
      clear hl0 hr2
      go_wp2_with (at_builtin
                   refine wpList_grow rfl (.tmp 28) (.tmp 35) 25 rfl elem_u8 (by rfl) (by simp) (Hl0.out.rd.alloc _) rfl (by rfl) Hr2.out rfl (by simp [Value.oneCell']) (by omega) (by omega) (by unfold maxLen; omega) (by omega) ?_
                   intro v5 w5 hn5
                   rw [Hkv.out, show u8s [103, 111, 105, 116] ++ u8s (beK (nat64 f.kind) 1 1 ++ beK (nat64 f.ver) 1 1) = u8s ([103, 111, 105, 116] ++ (beK (nat64 f.kind) 1 1 ++ beK (nat64 f.ver) 1 1)) by simp [u8s]] at hn5
                   have hn5 := hn5.wide (((Kept.refl [] (w.alloc (.cells #[.int .i64 f.kind, .int .i64 f.ver, .slice A m c] 27))).alloc _).alloc _)
                   obtain ⟨A5, n5, c5, rfl⟩ := hn5.1.form'
                   have Hn5 := Lib.hid hn5
                   have hb5 := Hb0.out.kept hn5.2.1 (by simp)
                   have hc5 := hb5.cell 2
                   simp only [List.getElem?_toArray, List.getElem?_cons_zero, List.getElem?_cons_succ] at hc5
                   clear hn5 hb5)
      refine (rU16_any _ (m : Int)).mono ?_
      rintro e w6 ⟨v6, rfl, hn6⟩
      obtain ⟨A6, m6, c6, rfl⟩ := hn6.1.form'
      have Hn56 := Lib.hid (Hn5.out.go hn6.2.1)
      have Hr6 := Lib.hid (RdB.of_own hn6.1)
      have hm6 : m6 = 2 := by rw [← Hr6.out.len.1]; simp [beK_len]
      clear hn6
      go_wp2_with (at_builtin
                   refine wpList_app _ rfl (.tmp 37) (.tmp 41) 25 rfl elem_u8 (by rfl) Hn56.out.1 (by rfl) Hr6.out.rd (by rw [u8s_len, Hr6.out.len.1]; omega) (u8s_one _) (by unfold maxLen; omega) (by omega) ?_
                   intro v7 w7 ho7 hk7 hr7
                   have hn7 := Hn56.out.app ho7 hk7 hr7
                   clear ho7 hk7 hr7
                   obtain ⟨A7, n7, c7, rfl⟩ := hn7.1.form'
                   have Hn7 := Lib.hid (Hh.out ▸ hn7)
                   clear hn7)
      have hh8 := head8_len f
      generalize head8 f = h8 at *
      have Hh8 := Lib.hid hh8
      clear hh8
      refine (rCrc_any _ _ _ _ _ _ (RdB.of_own Hn7.out.1)).mono ?_
      rintro e w8 ⟨rfl, rfl⟩
      go_wp2_with fail
      refine (rU32_any _ _ (crc h8) rfl (crc_lt _)).mono ?_
      rintro e w8 ⟨v8, rfl, hn8⟩
      obtain ⟨A8, m8, c8, rfl⟩ := hn8.1.form'
      have Hn78 := Lib.hid (Hn7.out.go hn8.2.1)
      have Hr8 := Lib.hid (RdB.of_own hn8.1)
      have hm8 : m8 = 4 := by rw [← Hr8.out.len.1]; simp [beK_len]
      clear hn8
      go_wp2_with (at_builtin
                   refine wpList_app _ rfl (.tmp 43) (.tmp 46) 25 rfl elem_u8 (by rfl) Hn78.out.1 (by rfl) Hr8.out.rd (by rw [u8s_len, Hr8.out.len.1]; omega) (u8s_one _) (by unfold maxLen; omega) (by omega) ?_
                   intro v9 w9 ho9 hk9 hr9
                   have hn9 := Hn78.out.app ho9 hk9 hr9
                   clear ho9 hk9 hr9
                   obtain ⟨A9, n9, c9, rfl⟩ := hn9.1.form'
                   have Hn9 := Lib.hid hn9
                   have hb9 := Hb0.out.kept hn9.2.1 (by simp)
                   have hc9 := hb9.cell 2
                   simp only [List.getElem?_toArray, List.getElem?_cons_zero, List.getElem?_cons_succ] at hc9
                   clear hb9
                   clear hn9)
      refine (rCrc_any _ _ _ _ _ _ (H.out.kept ((((Kept.refl [] w).alloc _).trans Hn9.out.2.1 (by simp))) (by simp))).mono ?_
      rintro e w10 ⟨rfl, rfl⟩
      go_wp2_with fail
      refine (rU32_any _ _ (crc f.body) rfl (crc_lt _)).mono ?_
      rintro e w10 ⟨v10, rfl, hn10⟩
      obtain ⟨A10, m10, c10, rfl⟩ := hn10.1.form'
      have Hn910 := Lib.hid (Hn9.out.go hn10.2.1)
      have Hr10 := Lib.hid (RdB.of_own hn10.1)
      have hm10 : m10 = 4 := by rw [← Hr10.out.len.1]; simp [beK_len]
      clear hn10
      go_wp2_with (first
                  | (at_builtin
                     refine wpList_app _ rfl (.tmp 48) (.tmp 52) 25 rfl elem_u8 (by rfl) Hn910.out.1 (by rfl) Hr10.out.rd (by rw [u8s_len, Hr10.out.len.1]; omega) (u8s_one _) (by unfold maxLen; omega) (by omega) ?_
                     intro v11 w11 ho11 hk11 hr11
                     have hn11 := Hn910.out.app ho11 hk11 hr11
                     clear ho11 hk11 hr11
                     obtain ⟨A11, n11, c11, rfl⟩ := hn11.1.form'
                     have Hn11 := Lib.hid hn11
                     have hb11 := Hb0.out.kept hn11.2.1 (by simp)
                     have hc11 := hb11.cell 2
                     simp only [List.getElem?_toArray, List.getElem?_cons_zero, List.getElem?_cons_succ] at hc11
                     clear hb11
                     clear hn11
                     have Hr12 := Lib.hid (H.out.kept ((((Kept.refl [] w).alloc (.cells #[.int .i64 f.kind, .int .i64 f.ver, .slice A m c] 27)).trans Hn11.out.2.1 (by simp))) (by simp)))
                  | (at_builtin
                     refine wpList_app _ rfl (.tmp 54) (.tmp 56) 25 rfl elem_u8 (by rfl) Hn11.out.1 (by rfl) Hr12.out.rd (by rw [u8s_len, Hr12.out.len.1]; omega) (u8s_one _) (by unfold maxLen; omega) (by omega) ?_
                     intro v13 w13 ho13 hk13 hr13
                     have hn13 := Hn11.out.app ho13 hk13 hr13
                     clear ho13 hk13 hr13
                     obtain ⟨A13, n13, c13, rfl⟩ := hn13.1.form'
                     have Hn13 := Lib.hid hn13
                     clear hn13))
      go_ret2
      refine ⟨_, rfl, ?_⟩
      rw [Hpb.out]
      exact (Hn13.out.wide ((Kept.refl [] w).alloc _)).cast (by omega) rfl
end Go.Proofs.Ytflbeipnnmeiaaa
