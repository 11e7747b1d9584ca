
/-
  The walk of record.backends.
-/
import Derived.Test.YtogdpfjbclnlnaaRecH
namespace Go.Proofs.Ytogdpfjbclnlnaa
open Go.RowKit Go.ChangeShapes Go.WideShapes Go.Deep
set_option linter.unusedVariables false

/-- in w the slice sl, made since W, in no block that was in W0, has the backends l -/
def BkO (W W0 w : World) (sl : Value) (l : List BackD) : Prop := ∃ css, LVx BkDec 70 3 W w sl l css [] ∧ ∀ k ∈ rowOf sl, W0.heap.size ≤ k
section
variable {W W0 w w' : World} {sl : Value} {l : List BackD}
theorem BkO.nil (hk : Kept [] W w) : BkO W W0 w (.slice none 0 0) [] := ⟨[], ⟨Own.nil _ _ _, by simp [rowOf, Value.ownBlock], Decs.nil, by simp, hk⟩, by simp [rowOf, Value.ownBlock]⟩
theorem BkO.form (h : BkO W W0 w sl l) : ∃ A m c, sl = .slice A m c := by obtain ⟨_, h, _⟩ := h; exact Own.form' h.own
theorem BkO.len (h : BkO W W0 w sl l) : ∃ A c, sl = .slice A l.length c := by obtain ⟨_, h, _⟩ := h; obtain ⟨A, c, e, _⟩ := h.own.form; exact ⟨A, c, e⟩
theorem BkO.bk (h : BkO W W0 w sl l) : BkV W w sl l := by obtain ⟨css, h, _⟩ := h; exact ⟨css, [], h⟩
theorem BkO.row (h : BkO W W0 w sl l) : ∀ k ∈ rowOf sl, W0.heap.size ≤ k := by obtain ⟨_, _, h⟩ := h; exact h
theorem BkO.other {S : List Nat} (h : BkO W W0 w sl l) (hk : Kept S w w') (hS : ∀ k ∈ S, k < W0.heap.size ∧ W.heap.size ≤ k) : BkO W W0 w' sl l := by
  obtain ⟨css, h1, h2⟩ := h
  exact ⟨css, h1.other BkOk hk (fun k hk' hm => by have := h2 k hk'; have := (hS k hm).1; omega) (by simp) (fun k hk' => (hS k hk').2), h2⟩
theorem BkO.go (h : BkO W W0 w sl l) (hk : Kept [] w w') : BkO W W0 w' sl l := h.other hk (by simp)
/-- other blocks of the call's own are written -/
theorem BkO.far {g : Nat} {t : TypeId} {cs : Array Value} (h : BkO W W0 w sl l) (hk : Kept [g] w w') (hb : Blk w g t cs) (ht : 70 ≠ t) (hg : W.heap.size ≤ g) : BkO W W0 w' sl l := by
  obtain ⟨css, h1, h2⟩ := h
  exact ⟨css, h1.other BkOk hk (fun k hk' hm => by simp at hm; subst hm; exact h1.own.ne_blk hb ht hk') (by simp) (fun k hk' => by simp at hk'; omega), h2⟩
theorem BkO.farG {g : Nat} (h : BkO W W0 w sl l) (hk : Kept [g] w w') (hg : g ∉ rowOf sl) (hW : W.heap.size ≤ g) : BkO W W0 w' sl l := by
  obtain ⟨css, h1, h2⟩ := h
  exact ⟨css, h1.other BkOk hk (fun k hk' hm => by simp at hm; subst hm; exact hg hk') (by simp) (fun k hk' => by simp at hk'; omega), h2⟩
theorem BkO.lt (h : BkO W W0 w sl l) : ∀ k ∈ rowOf sl, k < w.heap.size := by obtain ⟨_, h, _⟩ := h; exact h.own.lt
theorem BkO.cast {l' : List BackD} (h : BkO W W0 w sl l) (e : l = l') : BkO W W0 w sl l' := e ▸ h
end
/-- one backend more, laid in a block of its own -/
theorem wpList_bk {ops : Array Oper} {rest : List Oper} {o : Oper} {a : Act} {Q : Exit → Act → World → Prop} {w0 : World} (hgd : o.guard = none) (s x : Operand)
    (ho : o.op = .call { callee := .builtin .append, args := #[s, x], argTypes := #[27, 27] }) {W W0 : World} {sl : Value} {l : List BackD} {bk : BackD} {g : Nat} (hg : g = w0.heap.size) (hW0 : W0.heap.size ≤ w0.heap.size)
    (hs : a.eval s = sl) (hN : BkO W W0 w0 sl l) (hx : a.eval x = .slice (some ⟨g, 0, none⟩) 1 1) (hl : l.length ≤ 1000000)
    (h : ∀ A m c w', BkO W W0 w' (.slice A m c) (l ++ [bk]) → Kept (rowOf sl) w0 w' → wpList Try.prog ops Q rest (a.put o.dst (.slice A m c)) w') : wpList Try.prog ops Q (o :: rest) a (w0.alloc (.cells #[.int .i64 bk.id, .int .u32 (bk.addr.toNat : Nat), .int .i64 bk.weight] 70)) := by
  subst hg
  obtain ⟨css, h1, h2⟩ := hN
  have ha := h1.go BkOk ((Kept.refl [] w0).alloc (.cells #[.int .i64 bk.id, .int .u32 (bk.addr.toNat : Nat), .int .i64 bk.weight] 70))
  refine wpList_app _ hgd s x 27 ho elem_back hs ha.own hx (Rd.laid w0 [.int .i64 bk.id, .int .u32 (bk.addr.toNat : Nat), .int .i64 bk.weight] _) rfl (by simp [Value.oneCell']) (by unfold maxLen; omega) (by omega) (fun v' w' ho' hk hr => ?_)
  have hx := LVx.app BkOk ha (Kept.refl [] _) (css' := [[.int .i64 bk.id, .int .u32 (bk.addr.toNat : Nat), .int .i64 bk.weight]]) (l' := [bk]) (G' := []) (Decs.one' rfl) (by simp) ho' (by simp) (by simp) hk hr
  obtain ⟨A, m, c, rfl⟩ := Own.form' ho'
  refine h A m c w' ⟨_, hx, fun k hk' => ?_⟩ (((Kept.refl (rowOf sl) w0).alloc _).trans hk (fun i hi => .inl hi))
  rcases hr k hk' with h3 | h3
  · exact h2 k h3
  · have : w0.heap.size ≤ (w0.alloc (.cells #[.int .i64 bk.id, .int .u32 (bk.addr.toNat : Nat), .int .i64 bk.weight] 70)).heap.size := by simp
    omega
set_option maxHeartbeats 6400000 in
theorem Backends_any {W w : World} {b : Nat} {o : Option (List UInt8)} {v : Int} (h : RWo W b o w) :
    Calls Try.prog 81 #[.pointer (some ⟨b, 0, none⟩), .int .i64 v] w fun e w' => ∃ sl, e = .returned sl ∧ BkO W w w' sl (rdBs v (min (gk o 1) 17) (nk o 1)).1 ∧ RWo W b (rdBs v (min (gk o 1) 17) (nk o 1)).2 w' ∧ Kept [b] w w' := by
  have hb := h.lt
  have hge := h.ge
  have R := Lib.hid h
  have K := Lib.hid (Kept.refl [b] w)
  clear h
  obtain ⟨n8, hn8⟩ : ∃ n8, gk o 1 = n8 := ⟨_, rfl⟩
  obtain ⟨o1, ho1⟩ : ∃ o1, nk o 1 = o1 := ⟨_, rfl⟩
  have hl8 := gk_lt o 1
  rw [hn8] at hl8 ⊢
  rw [ho1]
  have E8 := Lib.hid hn8
  have EO := Lib.hid ho1
  clear hn8 ho1
  obtain ⟨n, hn⟩ : ∃ n, min n8 17 = n := ⟨_, rfl⟩
  have hn17 : n ≤ 17 := by omega
  rw [hn]
  have hq : (2 ≤ v ∧ n8 ≤ 17) ∨ (2 ≤ v ∧ 17 < n8) ∨ (¬ 2 ≤ v ∧ n8 ≤ 17) ∨ (¬ 2 ≤ v ∧ 17 < n8) := by omega
  rcases hq with ⟨q2, h17⟩ | ⟨q2, h17⟩ | ⟨q2, h17⟩ | ⟨q2, h17⟩
  all_goals
    first
      | (have e8 : n = n8 := by omega
         subst e8
         have i17 : (n : Int) ≤ 17 := by omega)
      | (have i17 : (17 : Int) < n8 := by omega
         have hB := Lib.hid (show n = 17 by omega))
    clear hn h17
    go_enter Try.func81, Try.ntmps81
    go_wp2_with (first
      | (go_at_call 90
         go_must (refine (DU8 R.out).mono ?_)
         go_must (rintro e w1 ⟨rfl, h1, k1⟩)
         go_must (rw [E8.out]; rw [EO.out] at h1)
         go_must (have hb1 := h1.lt)
         go_must (have R := Lib.hid h1)
         go_must (have K := Lib.hid (K.out.trans k1 (by simp)))
         go_must (clear h1 k1)))
    go_loopg [5, 10] n (fun g sl i wr => ∃ k : Nat, k ≤ n ∧ g = n - k ∧ i = .int .i64 k ∧ BkO W w wr sl (rdBs v k o1).1 ∧ RWo W b (rdBs v k o1).2 wr ∧ Kept [b] w wr)
    case atStart => exact ⟨0, by omega, by omega, rfl, BkO.nil R.out.kept, R.out, K.out⟩
    case round =>
      obtain ⟨k, hk, rfl, rfl, hS, hR, hK⟩ := hrel
      have S := Lib.hid hS
      have R := Lib.hid hR
      have K := Lib.hid hK
      clear hS hR hK
      have hlen := Lib.hid (rdBs_len v o1 k)
      have hnx := Lib.hid (show rdBs v (k + 1) o1 = ((rdBs v k o1).1 ++ [(rdB v (rdBs v k o1).2).1], (rdB v (rdBs v k o1).2).2) from rfl)
      obtain ⟨A0, m0, c0, rfl⟩ := S.out.form
      by_cases hlt : k < n
      · obtain ⟨lk, hlk⟩ : ∃ lk, (rdBs v k o1).1 = lk := ⟨_, rfl⟩
        obtain ⟨oq, hoq⟩ : ∃ oq, (rdBs v k o1).2 = oq := ⟨_, rfl⟩
        obtain ⟨bk, hbk⟩ : ∃ bk, (rdB v oq).1 = bk := ⟨_, rfl⟩
        have S := Lib.hid (hlk ▸ S.out)
        have R := Lib.hid (hoq ▸ R.out)
        have hlen := hlen.out
        rw [hlk] at hlen
        have hnx := Lib.hid (show rdBs v (k + 1) o1 = (lk ++ [bk], (rdB v oq).2) by rw [hnx.out, hlk, hoq, hbk])
        have E1 := Lib.hid (show ((gk oq 2 : Nat) : Int) = bk.id by rw [← hbk]; rfl)
        have E2 := Lib.hid (show ((gk (nk oq 2) 4 : Nat) : Int) = (bk.addr.toNat : Nat) by rw [← hbk]; simp only [rdB, gad_nat])
        have E3 := Lib.hid (show 2 ≤ v → ((gk (nk (nk oq 2) 4) 1 : Nat) : Int) = bk.weight by intro h; rw [← hbk]; simp only [rdB, if_pos h])
        have E4 := Lib.hid (show ¬ 2 ≤ v → bk.weight = 1 by intro h; rw [← hbk]; simp only [rdB, if_neg h])
        have E5 := Lib.hid (show (rdB v oq).2 = if 2 ≤ v then nk (nk (nk oq 2) 4) 1 else nk (nk oq 2) 4 from rfl)
        clear hlk hoq hbk
        have i0 : (0 : Int) ≤ (k : Int) := by omega
        first
          | (have i1 : (k : Int) < (17 : Int) := by have := hB.out; omega)
          | (have i1 : (k : Int) < (n : Int) := by omega)
        go_wp2_with (first
          | (go_at_call 77
             go_must (refine (DU16 R.out).mono ?_)
             go_must (rintro e w1 ⟨rfl, h1, k1⟩)
             go_must (rw [E1.out])
             go_must (have S := Lib.hid (S.out.other k1 (by simp; omega)))
             go_must (have K := Lib.hid (K.out.trans k1 (by simp)))
             go_must (have hb1 := h1.lt)
             go_must (have R := Lib.hid h1)
             go_must (have hsz1 := K.out.size)
             go_must (clear h1 k1))
          | (go_at_call 80
             go_must (refine (DU32 R.out).mono ?_)
             go_must (rintro e w2 ⟨rfl, h1, k1⟩)
             go_must (rw [E2.out])
             go_must (have S := Lib.hid (S.out.other k1 (by simp; omega)))
             go_must (have K := Lib.hid (K.out.trans k1 (by simp)))
             go_must (have hb2 := h1.lt)
             go_must (have R := Lib.hid h1)
             go_must (have hsz2 := K.out.size)
             go_must (clear h1 k1))
          | (go_at_call 90
             go_must (refine (DU8 (R.out.go ((Kept.refl [] _).alloc _))).mono ?_)
             go_must (rintro e w4 ⟨rfl, h1, k1⟩)
             go_must (rw [E3.out q2])
             go_must (have hk6 := (Kept.refl [] w2).alloc (.cells #[.int .i64 bk.id, .int .u32 (bk.addr.toNat : Nat), .int .i64 1] 70))
             go_must (have X := Lib.hid ((show Blk (w2.alloc (.cells #[.int .i64 bk.id, .int .u32 (bk.addr.toNat : Nat), .int .i64 1] 70)) w2.heap.size 70 #[.int .i64 bk.id, .int .u32 (bk.addr.toNat : Nat), .int .i64 1] from by (repeat (first | (apply Blk.new'; simp; done) | apply Blk.alloc | apply Blk.drew))).kept k1 (by simp; omega)))
             go_must (have hg6 : w2.heap.size ∉ rowOf (.slice A0 m0 c0) := fun hm => Nat.lt_irrefl _ (S.out.lt _ hm))
             go_must (have S := Lib.hid ((S.out.go hk6).other k1 (by simp; omega)))
             go_must (have K := Lib.hid ((K.out.trans hk6 (by simp)).trans k1 (by simp)))
             go_must (clear hk6)
             go_must (have hlt3 := X.out.lt)
             go_must (have hb4 := h1.lt)
             go_must (have R := Lib.hid h1)
             go_must (have hsz4 := K.out.size)
             go_must (clear h1 k1))
          | (with_reducible show wpList _ _ _ ({ dst := none, op := Op.store 3 (.tmp 21) (.tmp 20), type := _, pos := _, after := _, guard := _ } :: _) _ _
             go_must (refine wpList_putAt (t := 70) (v := .int .i64 bk.weight) rfl 3 (.tmp 21) (.tmp 20) rfl (by rfl) (by rfl) X.out (by simp [Value.cells]) (by kernel_rfl) (by simp [Value.cells, Value.oneCell']) ?_)
             go_must (intro w5 h1 k1)
             go_must (have X := Lib.hid (show Blk w5 w2.heap.size 70 #[.int .i64 bk.id, .int .u32 (bk.addr.toNat : Nat), .int .i64 bk.weight] from h1))
             go_must (have S := Lib.hid (S.out.farG k1 hg6 (by omega)))
             go_must (have R := Lib.hid (R.out.other k1 (by simp; omega)))
             go_must (have K := Lib.hid (K.out.trans k1 (fun i hi => .inr (by simp at hi; omega))))
             go_must (have hb5 := R.out.lt)
             go_must (have hsz5 := K.out.size)
             go_must (have hcx := X.out.cell)
             go_must (clear h1 k1))
          | (at_builtin
             go_must (first | (refine wpList_bk (W0 := w) (w0 := w5) (bk := bk) rfl (.tmp 22) (.tmp 24) rfl rfl hsz5 rfl S.out (by rfl) (by omega) ?_; intro A9 m9 c9 w9 h1 k1) | (refine wpList_bk (W0 := w) (w0 := w2.alloc (.cells #[.int .i64 bk.id, .int .u32 (bk.addr.toNat : Nat), .int .i64 1] 70)) (bk := ⟨bk.id, bk.addr, 1⟩) (g := w2.heap.size + 1) rfl (.tmp 22) (.tmp 24) rfl (by simp) (by simp; omega) rfl (S.out.go ((Kept.refl [] w2).alloc _)) (by rfl) (by omega) ?_; intro A9 m9 c9 w9 h1 k0; have k1 := ((Kept.refl (rowOf (.slice A0 m0 c0)) w2).alloc (.cells #[.int .i64 bk.id, .int .u32 (bk.addr.toNat : Nat), .int .i64 1] 70)).trans k0 (fun i hi => .inl hi); clear k0; have h1 := h1.cast (show lk ++ [(⟨bk.id, bk.addr, 1⟩ : BackD)] = lk ++ [bk] by rw [← E4.out (by omega)])))
             go_must (have hrw := S.out.row)
             go_must (have R := Lib.hid (R.out.other k1 (fun k hk => by have := hrw k hk; omega)))
             go_must (have K := Lib.hid (K.out.trans k1 (fun i hi => .inr (hrw i hi))))
             go_must (have S := Lib.hid h1)
             go_must (clear h1 k1 hrw)))
        go_roundg (n - (k + 1))
        case measure => omega
        case rel => exact ⟨k + 1, by omega, rfl, by go_num, S.out.cast (by rw [hnx.out]), by have hr := R.out; rw [hnx.out]; dsimp only; rw [E5.out]; first | (rw [if_pos q2]; exact hr) | (rw [if_neg (by omega)]; exact hr), K.out⟩
      · obtain rfl : k = n := by omega
        first
          | (have i1 : ¬ (k : Int) < (17 : Int) := by have := hB.out; omega)
          | (have i1 : ¬ (k : Int) < (k : Int) := by omega)
        go_wp2
        go_ret
        exact ⟨_, rfl, S.out, R.out, K.out⟩
end Go.Proofs.Ytogdpfjbclnlnaa
