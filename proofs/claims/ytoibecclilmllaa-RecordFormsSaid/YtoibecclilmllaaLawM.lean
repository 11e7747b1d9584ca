
/-
  The walk of RecordForms.
-/
import Derived.Test.YtoibecclilmllaaRecP
import Derived.Test.YtoibecclilmllaaRecE
import Derived.Test.YtoibecclilmllaaRecN
import Derived.Test.YtoibecclilmllaaRecQ
import Derived.Test.YtoibecclilmllaaRecZ
import Derived.Deep.RegionHeld3
import Derived.Outline
namespace Go.Proofs.Ytoibecclilmllaa
open Go.RowKit Go.ChangeShapes Go.WideShapes Go.Deep
set_option linter.unusedVariables false

theorem step_put {P : Program} {ops : Array Oper} {op : Oper} {a : Act} {K : Act → World → Prop} {Q : Exit → Act → World → Prop} {E0 : Prop} {w : World} (hgd : op.guard = none) (ty : TypeId) (x y : Operand) (ho : op.op = .store ty x y)
    {g : Nat} {t : TypeId} {cs0 : Array Value} (cells : Array Value) (hx : a.eval x = .pointer (some ⟨g, 0, none⟩)) (hy : a.eval y = .agg cells) (hb : Blk w g t cs0) (hs : cs0.size = cells.size)
    (hi : (P.info? ty).map (·.size) = some cells.size) (h1 : cells.all (·.oneCell') = true)
    (h : ∀ w', Blk w' g t cells → Kept [g] w w' → K (a.put op.dst undef) w') : if Region.wanted op (yielded ops a.tmps) = true then Oper.wp P op a w K Q else E0 := by
  rw [if_pos (by simp [Region.wanted, hgd])]
  refine wp_store_mid ty x y ho g 0 cells hx hy (fun j hj => ?_) hi h1 (h _ (hb.whole cells hs) (Kept.setCells _ _ _ _ (Kept.refl _ _)))
  rw [Nat.zero_add, hb.cell j, hb.frozen j]
  exact ⟨by rw [Array.getElem?_eq_getElem (by omega)]; rfl, rfl⟩
/-- a slice of backends made since W: its blocks -/
theorem BkV.own {W w : World} {v : Value} {l : List BackD} (h : BkV W w v l) : ∃ G, BkArr w G v l ∧ ∀ k ∈ G, W.heap.size ≤ k ∧ k < w.heap.size := by
  obtain ⟨css, G, h⟩ := h
  have h' : LVx BkDec 45 3 W w v l css [] := ⟨h.own, h.new, ⟨h.decs.1, fun i cs a h1 h2 => h.decs.2 i cs a h1 h2⟩, by simp, h.keptW⟩
  exact ⟨_, h'.arr BkOk, fun k hk => ⟨h.new k (by simpa using hk), h.own.lt k (by simpa using hk)⟩⟩
theorem inR_len (r : RecD) (v : Int) : (inR r v).backs.length ≤ r.backs.length := by
  have hp : (plainR r).backs.length ≤ r.backs.length := by
    unfold plainR
    repeat (split <;> first | exact Nat.le_refl _ | exact Nat.zero_le _ | skip)
  unfold inR
  split
  · exact Nat.zero_le _
  · dsimp only
    split
    · rw [List.length_map]; exact hp
    · exact hp
/-- what RecordForms' first drawn region leaves -/
def TwoPl (w wx : World) (x y : Value) (p : RecD) : Prop := ∃ g1 g2 A1 m1 c1 A2 m2 c2 G1 G2, x = .pointer (some ⟨g1, 0, none⟩) ∧ y = .pointer (some ⟨g2, 0, none⟩) ∧ Blk wx g1 29 #[.int .i64 p.kind, .int .u32 (p.tup.src.toNat : Nat), .int .u32 (p.tup.dst.toNat : Nat), .int .i64 p.tup.proto, .int .i64 p.tup.sport, .int .i64 p.tup.dport, .int .i64 p.fb, .int .i64 p.fg, .int .i64 p.fs, .int .i64 p.gen, .slice A1 m1 c1, .int .i64 p.back, .int .i64 p.until_, .int .i64 p.count] ∧ Blk wx g2 29 #[.int .i64 p.kind, .int .u32 (p.tup.src.toNat : Nat), .int .u32 (p.tup.dst.toNat : Nat), .int .i64 p.tup.proto, .int .i64 p.tup.sport, .int .i64 p.tup.dport, .int .i64 p.fb, .int .i64 p.fg, .int .i64 p.fs, .int .i64 p.gen, .slice A2 m2 c2, .int .i64 p.back, .int .i64 p.until_, .int .i64 p.count] ∧
  BkArr wx G1 (.slice A1 m1 c1) p.backs ∧ BkArr wx G2 (.slice A2 m2 c2) p.backs ∧ Kept [] w wx
set_option maxHeartbeats 6400000 in
set_option maxRecDepth 100000 in
theorem RecordForms_1 (w : World) {A : Option Addr} {m c : Nat} {B : Option Addr} {n d : Nat} (r s : RecD) (v : Int) (g1 : m ≤ 40) (g2 : n ≤ 40) (h1 : BkArr w (old w) (.slice A m c) r.backs) (h2 : BkArr w (old w) (.slice B n d) s.backs) :
    Calls Try.prog 3 #[.agg #[.int .i64 r.kind, .int .u32 (r.tup.src.toNat : Nat), .int .u32 (r.tup.dst.toNat : Nat), .int .i64 r.tup.proto, .int .i64 r.tup.sport, .int .i64 r.tup.dport, .int .i64 r.fb, .int .i64 r.fg, .int .i64 r.fs, .int .i64 r.gen, .slice A m c, .int .i64 r.back, .int .i64 r.until_, .int .i64 r.count], .agg #[.int .i64 s.kind, .int .u32 (s.tup.src.toNat : Nat), .int .u32 (s.tup.dst.toNat : Nat), .int .i64 s.tup.proto, .int .i64 s.tup.sport, .int .i64 s.tup.dport, .int .i64 s.fb, .int .i64 s.fg, .int .i64 s.fs, .int .i64 s.gen, .slice B n d, .int .i64 s.back, .int .i64 s.until_, .int .i64 s.count], .int .i64 v] w fun e w' => e = .returned (.bool true) ∧ Kept [] w w' := by
  have hk0 : Kept [] w ((w.alloc (.cells #[.int .i64 r.kind, .int .u32 (r.tup.src.toNat : Nat), .int .u32 (r.tup.dst.toNat : Nat), .int .i64 r.tup.proto, .int .i64 r.tup.sport, .int .i64 r.tup.dport, .int .i64 r.fb, .int .i64 r.fg, .int .i64 r.fs, .int .i64 r.gen, .slice A m c, .int .i64 r.back, .int .i64 r.until_, .int .i64 r.count] 29)).alloc (.cells #[.int .i64 s.kind, .int .u32 (s.tup.src.toNat : Nat), .int .u32 (s.tup.dst.toNat : Nat), .int .i64 s.tup.proto, .int .i64 s.tup.sport, .int .i64 s.tup.dport, .int .i64 s.fb, .int .i64 s.fg, .int .i64 s.fs, .int .i64 s.gen, .slice B n d, .int .i64 s.back, .int .i64 s.until_, .int .i64 s.count] 29)) := by (repeat (first | exact Kept.refl _ _ | apply Kept.alloc | apply Kept.drew))
  have P := Lib.hid (show Blk ((w.alloc (.cells #[.int .i64 r.kind, .int .u32 (r.tup.src.toNat : Nat), .int .u32 (r.tup.dst.toNat : Nat), .int .i64 r.tup.proto, .int .i64 r.tup.sport, .int .i64 r.tup.dport, .int .i64 r.fb, .int .i64 r.fg, .int .i64 r.fs, .int .i64 r.gen, .slice A m c, .int .i64 r.back, .int .i64 r.until_, .int .i64 r.count] 29)).alloc (.cells #[.int .i64 s.kind, .int .u32 (s.tup.src.toNat : Nat), .int .u32 (s.tup.dst.toNat : Nat), .int .i64 s.tup.proto, .int .i64 s.tup.sport, .int .i64 s.tup.dport, .int .i64 s.fb, .int .i64 s.fg, .int .i64 s.fs, .int .i64 s.gen, .slice B n d, .int .i64 s.back, .int .i64 s.until_, .int .i64 s.count] 29)) w.heap.size 29 #[.int .i64 r.kind, .int .u32 (r.tup.src.toNat : Nat), .int .u32 (r.tup.dst.toNat : Nat), .int .i64 r.tup.proto, .int .i64 r.tup.sport, .int .i64 r.tup.dport, .int .i64 r.fb, .int .i64 r.fg, .int .i64 r.fs, .int .i64 r.gen, .slice A m c, .int .i64 r.back, .int .i64 r.until_, .int .i64 r.count] from by (repeat (first | (apply Blk.new'; simp; done) | apply Blk.alloc | apply Blk.drew)))
  have Q := Lib.hid (show Blk ((w.alloc (.cells #[.int .i64 r.kind, .int .u32 (r.tup.src.toNat : Nat), .int .u32 (r.tup.dst.toNat : Nat), .int .i64 r.tup.proto, .int .i64 r.tup.sport, .int .i64 r.tup.dport, .int .i64 r.fb, .int .i64 r.fg, .int .i64 r.fs, .int .i64 r.gen, .slice A m c, .int .i64 r.back, .int .i64 r.until_, .int .i64 r.count] 29)).alloc (.cells #[.int .i64 s.kind, .int .u32 (s.tup.src.toNat : Nat), .int .u32 (s.tup.dst.toNat : Nat), .int .i64 s.tup.proto, .int .i64 s.tup.sport, .int .i64 s.tup.dport, .int .i64 s.fb, .int .i64 s.fg, .int .i64 s.fs, .int .i64 s.gen, .slice B n d, .int .i64 s.back, .int .i64 s.until_, .int .i64 s.count] 29)) (w.heap.size + 1) 29 #[.int .i64 s.kind, .int .u32 (s.tup.src.toNat : Nat), .int .u32 (s.tup.dst.toNat : Nat), .int .i64 s.tup.proto, .int .i64 s.tup.sport, .int .i64 s.tup.dport, .int .i64 s.fb, .int .i64 s.fg, .int .i64 s.fs, .int .i64 s.gen, .slice B n d, .int .i64 s.back, .int .i64 s.until_, .int .i64 s.count] from by (repeat (first | (apply Blk.new'; simp; done) | apply Blk.alloc | apply Blk.drew)))
  have K := Lib.hid hk0
  have H1 := Lib.hid (BkArr.kept h1 (Kept.refl [] w) (by simp))
  have H2 := Lib.hid (BkArr.kept h2 (Kept.refl [] w) (by simp))
  have Hs1 : Hid (m ≤ 40 → ∀ w', Kept [] w w' → SmallB w' (old w) A m c r.backs) := Lib.hid (fun hm w' hk => ⟨BkArr.kept h1 hk (by simp), fun k hk' => Nat.lt_of_lt_of_le (List.mem_range.1 hk') hk.size, by omega⟩)
  have Hs2 : Hid (n ≤ 40 → ∀ w', Kept [] w w' → SmallB w' (old w) B n d s.backs) := Lib.hid (fun hm w' hk => ⟨BkArr.kept h2 hk (by simp), fun k hk' => Nat.lt_of_lt_of_le (List.mem_range.1 hk') hk.size, by omega⟩)
  clear h1 h2 hk0
  have d1 : decide (m ≤ 40) = true := by simpa using g1
  have d2 : decide (n ≤ 40) = true := by simpa using g2
  obtain ⟨p, hp⟩ : ∃ p, plainR r = p := ⟨_, rfl⟩
  have EP := Lib.hid hp
  clear hp
  go_enter Try.func3, Try.ntmps3
  go_upto_region 3 with (first
    | (go_at_call 4
       with_reducible refine (light8_any _ r (BkArr.kept H1.out K.out (by simp))).mono ?_
       go_must (rintro e w1 ⟨rfl, k1⟩)
       go_must (rw [d1])
       go_must (have P := Lib.hid (P.out.kept k1 (by simp)))
       go_must (have Q := Lib.hid (Q.out.kept k1 (by simp)))
       go_must (have K := Lib.hid (K.out.trans k1 (by simp)))
       go_must (first | (clear hcx hcy) | skip)
       go_must (first | (clear hcf) | skip)
       go_must (clear k1)
       go_must (have hcx := P.out.cell)
       go_must (have hcy := Q.out.cell))
    | (go_at_call 4
       with_reducible refine (light8_any _ s (BkArr.kept H2.out K.out (by simp))).mono ?_
       go_must (rintro e w2 ⟨rfl, k1⟩)
       go_must (rw [d2])
       go_must (have P := Lib.hid (P.out.kept k1 (by simp)))
       go_must (have Q := Lib.hid (Q.out.kept k1 (by simp)))
       go_must (have K := Lib.hid (K.out.trans k1 (by simp)))
       go_must (first | (clear hcx hcy) | skip)
       go_must (first | (clear hcf) | skip)
       go_must (clear k1)
       go_must (have hcx := P.out.cell)
       go_must (have hcy := Q.out.cell)))
  clear hcx hcy
  go_cut [7, 8] (fun x y wx => TwoPl w wx x y p ∧ Blk wx w.heap.size 29 #[.int .i64 r.kind, .int .u32 (r.tup.src.toNat : Nat), .int .u32 (r.tup.dst.toNat : Nat), .int .i64 r.tup.proto, .int .i64 r.tup.sport, .int .i64 r.tup.dport, .int .i64 r.fb, .int .i64 r.fg, .int .i64 r.fs, .int .i64 r.gen, .slice A m c, .int .i64 r.back, .int .i64 r.until_, .int .i64 r.count] ∧ Blk wx (w.heap.size + 1) 29 #[.int .i64 s.kind, .int .u32 (s.tup.src.toNat : Nat), .int .u32 (s.tup.dst.toNat : Nat), .int .i64 s.tup.proto, .int .i64 s.tup.sport, .int .i64 s.tup.dport, .int .i64 s.fb, .int .i64 s.fg, .int .i64 s.fs, .int .i64 s.gen, .slice B n d, .int .i64 s.back, .int .i64 s.until_, .int .i64 s.count])
  case first =>
    refine wp_region_held_drew (S := (fun w' => ∀ o, w'.cell? ⟨w.heap.size, o, none⟩ = (#[.int .i64 r.kind, .int .u32 (r.tup.src.toNat : Nat), .int .u32 (r.tup.dst.toNat : Nat), .int .i64 r.tup.proto, .int .i64 r.tup.sport, .int .i64 r.tup.dport, .int .i64 r.fb, .int .i64 r.fg, .int .i64 r.fs, .int .i64 r.gen, .slice A m c, .int .i64 r.back, .int .i64 r.until_, .int .i64 r.count] : Array Value)[o]?)) (by kernel_rfl) (fun o => (P.out.drew).cell o) (fun hHeld => ?_)
    refine wpAnyH_take (i := 0) (oi := ⟨some 18, _, _, _, _, _⟩) (v := (.agg #[.int .i64 r.kind, .int .u32 (r.tup.src.toNat : Nat), .int .u32 (r.tup.dst.toNat : Nat), .int .i64 r.tup.proto, .int .i64 r.tup.sport, .int .i64 r.tup.dport, .int .i64 r.fb, .int .i64 r.fg, .int .i64 r.fs, .int .i64 r.gen, .slice A m c, .int .i64 r.back, .int .i64 r.until_, .int .i64 r.count])) rfl (by kernel_rfl) (by kernel_rfl) (by kernel_rfl) (fun _ _ _ h => h) (Or.inl ⟨by kernel_rfl, ?hyh1_1⟩) (by assumption) ?resth1_1
    case hyh1_1 => (intro w99 hSw; (try dsimp only at hSw); (try go_simp); (try with_reducible rfl); (try omega))
    simp only [Act.put, List.setIfInBounds_toArray, List.set_cons_zero, List.set_cons_succ]
    refine wpAnyH_take (i := 2) (oi := ⟨some 20, _, _, _, _, _⟩) (v := (.agg #[.int .i64 r.kind, .int .u32 (r.tup.src.toNat : Nat), .int .u32 (r.tup.dst.toNat : Nat), .int .i64 r.tup.proto, .int .i64 r.tup.sport, .int .i64 r.tup.dport, .int .i64 r.fb, .int .i64 r.fg, .int .i64 r.fs, .int .i64 r.gen, .slice A m c, .int .i64 r.back, .int .i64 r.until_, .int .i64 r.count])) rfl (by kernel_rfl) (by kernel_rfl) (by kernel_rfl) (fun _ _ _ h => h) (Or.inl ⟨by kernel_rfl, ?hyh1_2⟩) (by assumption) ?resth1_2
    case hyh1_2 => (intro w99 hSw; (try dsimp only at hSw); (try go_simp); (try with_reducible rfl); (try omega))
    simp only [Act.put, List.setIfInBounds_toArray, List.set_cons_zero, List.set_cons_succ]
    have P := Lib.hid P.out.drew
    have Q := Lib.hid Q.out.drew
    have K := Lib.hid K.out.drew
    generalize w2.drew = w3 at *
    have SZ0 := Lib.hid Q.out.lt
    refine wpAnyH_ready (rs := [1, 4, 5]) (by kernel_rfl) (by simp) ?_
    refine AllReadyH.cons (o := ⟨some 19, _, _, _, _, _⟩) rfl (fun KQ hKQ => ?w1h1_3) (AllReadyH.cons (o := ⟨some 7, _, _, _, _, _⟩) rfl (fun KQ hKQ => ?w4h1_3) (AllReadyH.cons (o := ⟨some 8, _, _, _, _, _⟩) rfl (fun KQ hKQ => ?w5h1_3) AllReadyH.nil))
    case w1h1_3 =>
      go_simp
      go_at_call 6
      with_reducible refine (Plain_any _ r (Hs1.out g1 _ K.out)).mono ?_
      rintro e wA ⟨sl, rfl, hS⟩
      rw [EP.out] at hS ⊢
      have hk := LV.kept hS
      have KszA := Lib.hid hk.size
      have P := Lib.hid (P.out.kept hk (by simp))
      have Q := Lib.hid (Q.out.kept hk (by simp))
      have K := Lib.hid (K.out.trans hk (by simp))
      obtain ⟨AA, mA, cA, rfl⟩ := BkV.form hS
      obtain ⟨GA, ha, hl⟩ := BkV.own hS
      have SA := Lib.hid ha
      have LSA := Lib.hid hl
      clear hS ha hl hk
      go_wp2_with fail
      refine hKQ.out _ _ (fun o => P.out.cell o) (fun hHeld9 => ?_)
      clear hKQ KQ hHeld
      have hHeld := hHeld9
      clear hHeld9
      try simp only [Act.put, List.setIfInBounds_toArray, List.set_cons_zero, List.set_cons_succ]
      refine wpAnyH_ready (rs := [3, 4, 5]) (by kernel_rfl) (by simp) ?_
      refine AllReadyH.cons (o := ⟨some 21, _, _, _, _, _⟩) rfl (fun KQ hKQ => ?w3h1_4) (AllReadyH.cons (o := ⟨some 7, _, _, _, _, _⟩) rfl (fun KQ hKQ => ?w4h1_4) (AllReadyH.cons (o := ⟨some 8, _, _, _, _, _⟩) rfl (fun KQ hKQ => ?w5h1_4) AllReadyH.nil))
      case w3h1_4 =>
        go_simp
        go_at_call 7
        with_reducible refine (rPlain_any _ r (Hs1.out g1 _ K.out)).mono ?_
        rintro e wB ⟨sl, rfl, hS⟩
        rw [EP.out] at hS ⊢
        have hk := LV.kept hS
        have KszB := Lib.hid hk.size
        have P := Lib.hid (P.out.kept hk (by simp))
        have Q := Lib.hid (Q.out.kept hk (by simp))
        have K := Lib.hid (K.out.trans hk (by simp))
        have SA := Lib.hid (BkArr.kept SA.out hk (by simp))
        obtain ⟨AB, mB, cB, rfl⟩ := BkV.form hS
        obtain ⟨GB, ha, hl⟩ := BkV.own hS
        have SB := Lib.hid ha
        have LSB := Lib.hid hl
        clear hS ha hl hk
        go_wp2_with fail
        refine hKQ.out _ _ (fun o => P.out.cell o) (fun hHeld9 => ?_)
        clear hKQ KQ hHeld
        have hHeld := hHeld9
        clear hHeld9
        try simp only [Act.put, List.setIfInBounds_toArray, List.set_cons_zero, List.set_cons_succ]
        refine wpAnyH_ready (rs := [4, 5]) (by kernel_rfl) (by simp) ?_
        refine AllReadyH.cons (o := ⟨some 7, _, _, _, _, _⟩) rfl (fun KQ hKQ => ?w4h1_5) (AllReadyH.cons (o := ⟨some 8, _, _, _, _, _⟩) rfl (fun KQ hKQ => ?w5h1_5) AllReadyH.nil)
        case w4h1_5 =>
          go_simp
          refine hKQ.out _ _ (fun o => (P.out.alloc _).cell o) (fun hHeld9 => ?_)
          clear hKQ KQ hHeld
          have hHeld := hHeld9
          clear hHeld9
          try simp only [Act.put, List.setIfInBounds_toArray, List.set_cons_zero, List.set_cons_succ]
          have hk : Kept [] wB (wB.alloc (.cells #[.int .i64 0, .int .u32 0, .int .u32 0, .int .i64 0, .int .i64 0, .int .i64 0, .int .i64 0, .int .i64 0, .int .i64 0, .int .i64 0, .slice none 0 0, .int .i64 0, .int .i64 0, .int .i64 0] 29)) := (Kept.refl [] _).alloc _
          have P := Lib.hid (P.out.kept hk (by simp))
          have Q := Lib.hid (Q.out.kept hk (by simp))
          have K := Lib.hid (K.out.trans hk (by simp))
          have SA := Lib.hid (BkArr.kept SA.out hk (by simp))
          have SB := Lib.hid (BkArr.kept SB.out hk (by simp))
          have hz := show Blk (wB.alloc (.cells #[.int .i64 0, .int .u32 0, .int .u32 0, .int .i64 0, .int .i64 0, .int .i64 0, .int .i64 0, .int .i64 0, .int .i64 0, .int .i64 0, .slice none 0 0, .int .i64 0, .int .i64 0, .int .i64 0] 29)) wB.heap.size 29 #[.int .i64 0, .int .u32 0, .int .u32 0, .int .i64 0, .int .i64 0, .int .i64 0, .int .i64 0, .int .i64 0, .int .i64 0, .int .i64 0, .slice none 0 0, .int .i64 0, .int .i64 0, .int .i64 0] from by (repeat (first | (apply Blk.new'; simp; done) | apply Blk.alloc | apply Blk.drew))
          have he := show (wB.alloc (.cells #[.int .i64 0, .int .u32 0, .int .u32 0, .int .i64 0, .int .i64 0, .int .i64 0, .int .i64 0, .int .i64 0, .int .i64 0, .int .i64 0, .slice none 0 0, .int .i64 0, .int .i64 0, .int .i64 0] 29)).heap.size = wB.heap.size + 1 by simp
          obtain ⟨q1, hq⟩ : ∃ g, wB.heap.size = g := ⟨_, rfl⟩
          rw [hq] at he hz
          try simp only [hq]
          have HQ1 := Lib.hid hq
          have E1 := Lib.hid he
          have Z1 := Lib.hid hz
          clear hk he hz hq
          generalize (wB.alloc (.cells #[.int .i64 0, .int .u32 0, .int .u32 0, .int .i64 0, .int .i64 0, .int .i64 0, .int .i64 0, .int .i64 0, .int .i64 0, .int .i64 0, .slice none 0 0, .int .i64 0, .int .i64 0, .int .i64 0] 29)) = w4 at *
          refine wpAnyH_ready (rs := [5]) (by kernel_rfl) (by simp) ?_
          refine AllReadyH.cons (o := ⟨some 8, _, _, _, _, _⟩) rfl (fun KQ hKQ => ?w5h1_6) AllReadyH.nil
          case w5h1_6 =>
            go_simp
            refine hKQ.out _ _ (fun o => (P.out.alloc _).cell o) (fun hHeld9 => ?_)
            clear hKQ KQ hHeld
            have hHeld := hHeld9
            clear hHeld9
            try simp only [Act.put, List.setIfInBounds_toArray, List.set_cons_zero, List.set_cons_succ]
            have hk : Kept [] w4 (w4.alloc (.cells #[.int .i64 0, .int .u32 0, .int .u32 0, .int .i64 0, .int .i64 0, .int .i64 0, .int .i64 0, .int .i64 0, .int .i64 0, .int .i64 0, .slice none 0 0, .int .i64 0, .int .i64 0, .int .i64 0] 29)) := (Kept.refl [] _).alloc _
            have P := Lib.hid (P.out.kept hk (by simp))
            have Q := Lib.hid (Q.out.kept hk (by simp))
            have K := Lib.hid (K.out.trans hk (by simp))
            have SA := Lib.hid (BkArr.kept SA.out hk (by simp))
            have SB := Lib.hid (BkArr.kept SB.out hk (by simp))
            have Z1 := Lib.hid (Z1.out.kept hk (by simp))
            have hz := show Blk (w4.alloc (.cells #[.int .i64 0, .int .u32 0, .int .u32 0, .int .i64 0, .int .i64 0, .int .i64 0, .int .i64 0, .int .i64 0, .int .i64 0, .int .i64 0, .slice none 0 0, .int .i64 0, .int .i64 0, .int .i64 0] 29)) w4.heap.size 29 #[.int .i64 0, .int .u32 0, .int .u32 0, .int .i64 0, .int .i64 0, .int .i64 0, .int .i64 0, .int .i64 0, .int .i64 0, .int .i64 0, .slice none 0 0, .int .i64 0, .int .i64 0, .int .i64 0] from by (repeat (first | (apply Blk.new'; simp; done) | apply Blk.alloc | apply Blk.drew))
            have he := show (w4.alloc (.cells #[.int .i64 0, .int .u32 0, .int .u32 0, .int .i64 0, .int .i64 0, .int .i64 0, .int .i64 0, .int .i64 0, .int .i64 0, .int .i64 0, .slice none 0 0, .int .i64 0, .int .i64 0, .int .i64 0] 29)).heap.size = w4.heap.size + 1 by simp
            obtain ⟨q2, hq⟩ : ∃ g, w4.heap.size = g := ⟨_, rfl⟩
            rw [hq] at he hz
            try simp only [hq]
            have HQ2 := Lib.hid hq
            have E2 := Lib.hid he
            have Z2 := Lib.hid hz
            clear hk he hz hq
            generalize (w4.alloc (.cells #[.int .i64 0, .int .u32 0, .int .u32 0, .int .i64 0, .int .i64 0, .int .i64 0, .int .i64 0, .int .i64 0, .int .i64 0, .int .i64 0, .slice none 0 0, .int .i64 0, .int .i64 0, .int .i64 0] 29)) = w5 at *
            have AR := Lib.hid (show w.heap.size + 1 < q1 ∧ w.heap.size + 1 < q2 ∧ q1 ≠ q2 from by have a0 := SZ0.out; have a1 := KszA.out; have a2 := KszB.out; have a3 := HQ1.out; have a4 := E1.out; have a5 := HQ2.out; have a6 := E2.out; omega)
            have NSA := Lib.hid (show ∀ i ∈ GA, i ≠ q1 ∧ i ≠ q2 from fun i hi => by have b := LSA.out i hi; have a0 := SZ0.out; have a1 := KszA.out; have a2 := KszB.out; have a3 := HQ1.out; have a4 := E1.out; have a5 := HQ2.out; have a6 := E2.out; omega)
            have NSB := Lib.hid (show ∀ i ∈ GB, i ≠ q1 ∧ i ≠ q2 from fun i hi => by have b := LSB.out i hi; have a0 := SZ0.out; have a1 := KszA.out; have a2 := KszB.out; have a3 := HQ1.out; have a4 := E1.out; have a5 := HQ2.out; have a6 := E2.out; omega)
            refine wpAnyH_ready (rs := [6]) (by kernel_rfl) (by simp) ?_
            refine AllReadyH.cons (o := ⟨none, _, _, _, _, _⟩) rfl (fun KQ hKQ => ?w6h1_7) AllReadyH.nil
            case w6h1_7 =>
              refine step_put (t := 29) rfl 29 (.tmp 7) (.tmp 19) rfl _ (by first | (simp [Act.eval]; done) | (simp [Act.eval]; rfl) | rfl) (by first | (simp [Act.eval]; done) | (simp [Act.eval]; rfl) | rfl) Z1.out (by rfl) (by kernel_rfl) (by simp [Value.oneCell']) ?_
              intro w6 hb hk
              have P := Lib.hid (P.out.kept hk (by have h3 := AR.out; simp; omega))
              have Q := Lib.hid (Q.out.kept hk (by have h3 := AR.out; simp; omega))
              have K := Lib.hid (K.out.trans hk (fun i hi => .inr (by have h3 := AR.out; simp at hi; omega)))
              have SA := Lib.hid (BkArr.kept SA.out hk (fun i hi => by have h1 := NSA.out i hi; simp; omega))
              have SB := Lib.hid (BkArr.kept SB.out hk (fun i hi => by have h1 := NSB.out i hi; simp; omega))
              have Z2 := Lib.hid (Z2.out.kept hk (by have h3 := AR.out; simp; omega))
              have D1 := Lib.hid hb
              clear hb hk
              refine hKQ.out _ _ (fun o => P.out.cell o) (fun hHeld9 => ?_)
              clear hKQ KQ hHeld
              have hHeld := hHeld9
              clear hHeld9
              try simp only [Act.put]
              refine wpAnyH_ready (rs := [7]) (by kernel_rfl) (by simp) ?_
              refine AllReadyH.cons (o := ⟨none, _, _, _, _, _⟩) rfl (fun KQ hKQ => ?w7h1_8) AllReadyH.nil
              case w7h1_8 =>
                refine step_put (t := 29) rfl 29 (.tmp 8) (.tmp 21) rfl _ (by first | (simp [Act.eval]; done) | (simp [Act.eval]; rfl) | rfl) (by first | (simp [Act.eval]; done) | (simp [Act.eval]; rfl) | rfl) Z2.out (by rfl) (by kernel_rfl) (by simp [Value.oneCell']) ?_
                intro w7 hb hk
                have P := Lib.hid (P.out.kept hk (by have h3 := AR.out; simp; omega))
                have Q := Lib.hid (Q.out.kept hk (by have h3 := AR.out; simp; omega))
                have K := Lib.hid (K.out.trans hk (fun i hi => .inr (by have h3 := AR.out; simp at hi; omega)))
                have SA := Lib.hid (BkArr.kept SA.out hk (fun i hi => by have h1 := NSA.out i hi; simp; omega))
                have SB := Lib.hid (BkArr.kept SB.out hk (fun i hi => by have h1 := NSB.out i hi; simp; omega))
                have D1 := Lib.hid (D1.out.kept hk (by have h3 := AR.out; simp; omega))
                have D2 := Lib.hid hb
                clear hb hk
                refine hKQ.out _ _ (fun o => P.out.cell o) (fun hHeld9 => ?_)
                clear hKQ KQ hHeld
                have hHeld := hHeld9
                clear hHeld9
                try simp only [Act.put]
                refine wpAnyH_done (by kernel_rfl) ?_ _
                clear hHeld
                go_wp2_with fail
                go_meet
                exact ⟨⟨q1, q2, _, _, _, _, _, _, GA, GB, rfl, rfl, D1.out, D2.out, SA.out, SB.out, K.out⟩, P.out, Q.out⟩
        case w5h1_5 =>
          go_simp
          refine hKQ.out _ _ (fun o => (P.out.alloc _).cell o) (fun hHeld9 => ?_)
          clear hKQ KQ hHeld
          have hHeld := hHeld9
          clear hHeld9
          try simp only [Act.put, List.setIfInBounds_toArray, List.set_cons_zero, List.set_cons_succ]
          have hk : Kept [] wB (wB.alloc (.cells #[.int .i64 0, .int .u32 0, .int .u32 0, .int .i64 0, .int .i64 0, .int .i64 0, .int .i64 0, .int .i64 0, .int .i64 0, .int .i64 0, .slice none 0 0, .int .i64 0, .int .i64 0, .int .i64 0] 29)) := (Kept.refl [] _).alloc _
          have P := Lib.hid (P.out.kept hk (by simp))
          have Q := Lib.hid (Q.out.kept hk (by simp))
          have K := Lib.hid (K.out.trans hk (by simp))
          have SA := Lib.hid (BkArr.kept SA.out hk (by simp))
          have SB := Lib.hid (BkArr.kept SB.out hk (by simp))
          have hz := show Blk (wB.alloc (.cells #[.int .i64 0, .int .u32 0, .int .u32 0, .int .i64 0, .int .i64 0, .int .i64 0, .int .i64 0, .int .i64 0, .int .i64 0, .int .i64 0, .slice none 0 0, .int .i64 0, .int .i64 0, .int .i64 0] 29)) wB.heap.size 29 #[.int .i64 0, .int .u32 0, .int .u32 0, .int .i64 0, .int .i64 0, .int .i64 0, .int .i64 0, .int .i64 0, .int .i64 0, .int .i64 0, .slice none 0 0, .int .i64 0, .int .i64 0, .int .i64 0] from by (repeat (first | (apply Blk.new'; simp; done) | apply Blk.alloc | apply Blk.drew))
          have he := show (wB.alloc (.cells #[.int .i64 0, .int .u32 0, .int .u32 0, .int .i64 0, .int .i64 0, .int .i64 0, .int .i64 0, .int .i64 0, .int .i64 0, .int .i64 0, .slice none 0 0, .int .i64 0, .int .i64 0, .int .i64 0] 29)).heap.size = wB.heap.size + 1 by simp
          obtain ⟨q2, hq⟩ : ∃ g, wB.heap.size = g := ⟨_, rfl⟩
          rw [hq] at he hz
          try simp only [hq]
          have HQ2 := Lib.hid hq
          have E2 := Lib.hid he
          have Z2 := Lib.hid hz
          clear hk he hz hq
          generalize (wB.alloc (.cells #[.int .i64 0, .int .u32 0, .int .u32 0, .int .i64 0, .int .i64 0, .int .i64 0, .int .i64 0, .int .i64 0, .int .i64 0, .int .i64 0, .slice none 0 0, .int .i64 0, .int .i64 0, .int .i64 0] 29)) = w5 at *
          refine wpAnyH_ready (rs := [4]) (by kernel_rfl) (by simp) ?_
          refine AllReadyH.cons (o := ⟨some 7, _, _, _, _, _⟩) rfl (fun KQ hKQ => ?w4h1_9) AllReadyH.nil
          case w4h1_9 =>
            go_simp
            refine hKQ.out _ _ (fun o => (P.out.alloc _).cell o) (fun hHeld9 => ?_)
            clear hKQ KQ hHeld
            have hHeld := hHeld9
            clear hHeld9
            try simp only [Act.put, List.setIfInBounds_toArray, List.set_cons_zero, List.set_cons_succ]
            have hk : Kept [] w5 (w5.alloc (.cells #[.int .i64 0, .int .u32 0, .int .u32 0, .int .i64 0, .int .i64 0, .int .i64 0, .int .i64 0, .int .i64 0, .int .i64 0, .int .i64 0, .slice none 0 0, .int .i64 0, .int .i64 0, .int .i64 0] 29)) := (Kept.refl [] _).alloc _
            have P := Lib.hid (P.out.kept hk (by simp))
            have Q := Lib.hid (Q.out.kept hk (by simp))
            have K := Lib.hid (K.out.trans hk (by simp))
            have SA := Lib.hid (BkArr.kept SA.out hk (by simp))
            have SB := Lib.hid (BkArr.kept SB.out hk (by simp))
            have Z2 := Lib.hid (Z2.out.kept hk (by simp))
            have hz := show Blk (w5.alloc (.cells #[.int .i64 0, .int .u32 0, .int .u32 0, .int .i64 0, .int .i64 0, .int .i64 0, .int .i64 0, .int .i64 0, .int .i64 0, .int .i64 0, .slice none 0 0, .int .i64 0, .int .i64 0, .int .i64 0] 29)) w5.heap.size 29 #[.int .i64 0, .int .u32 0, .int .u32 0, .int .i64 0, .int .i64 0, .int .i64 0, .int .i64 0, .int .i64 0, .int .i64 0, .int .i64 0, .slice none 0 0, .int .i64 0, .int .i64 0, .int .i64 0] from by (repeat (first | (apply Blk.new'; simp; done) | apply Blk.alloc | apply Blk.drew))
            have he := show (w5.alloc (.cells #[.int .i64 0, .int .u32 0, .int .u32 0, .int .i64 0, .int .i64 0, .int .i64 0, .int .i64 0, .int .i64 0, .int .i64 0, .int .i64 0, .slice none 0 0, .int .i64 0, .int .i64 0, .int .i64 0] 29)).heap.size = w5.heap.size + 1 by simp
            obtain ⟨q1, hq⟩ : ∃ g, w5.heap.size = g := ⟨_, rfl⟩
            rw [hq] at he hz
            try simp only [hq]
            have HQ1 := Lib.hid hq
            have E1 := Lib.hid he
            have Z1 := Lib.hid hz
            clear hk he hz hq
            generalize (w5.alloc (.cells #[.int .i64 0, .int .u32 0, .int .u32 0, .int .i64 0, .int .i64 0, .int .i64 0, .int .i64 0, .int .i64 0, .int .i64 0, .int .i64 0, .slice none 0 0, .int .i64 0, .int .i64 0, .int .i64 0] 29)) = w4 at *
            have AR := Lib.hid (show w.heap.size + 1 < q1 ∧ w.heap.size + 1 < q2 ∧ q1 ≠ q2 from by have a0 := SZ0.out; have a1 := KszA.out; have a2 := KszB.out; have a3 := HQ2.out; have a4 := E2.out; have a5 := HQ1.out; have a6 := E1.out; omega)
            have NSA := Lib.hid (show ∀ i ∈ GA, i ≠ q1 ∧ i ≠ q2 from fun i hi => by have b := LSA.out i hi; have a0 := SZ0.out; have a1 := KszA.out; have a2 := KszB.out; have a3 := HQ2.out; have a4 := E2.out; have a5 := HQ1.out; have a6 := E1.out; omega)
            have NSB := Lib.hid (show ∀ i ∈ GB, i ≠ q1 ∧ i ≠ q2 from fun i hi => by have b := LSB.out i hi; have a0 := SZ0.out; have a1 := KszA.out; have a2 := KszB.out; have a3 := HQ2.out; have a4 := E2.out; have a5 := HQ1.out; have a6 := E1.out; omega)
            refine wpAnyH_ready (rs := [6]) (by kernel_rfl) (by simp) ?_
            refine AllReadyH.cons (o := ⟨none, _, _, _, _, _⟩) rfl (fun KQ hKQ => ?w6h1_10) AllReadyH.nil
            case w6h1_10 =>
              refine step_put (t := 29) rfl 29 (.tmp 7) (.tmp 19) rfl _ (by first | (simp [Act.eval]; done) | (simp [Act.eval]; rfl) | rfl) (by first | (simp [Act.eval]; done) | (simp [Act.eval]; rfl) | rfl) Z1.out (by rfl) (by kernel_rfl) (by simp [Value.oneCell']) ?_
              intro w6 hb hk
              have P := Lib.hid (P.out.kept hk (by have h3 := AR.out; simp; omega))
              have Q := Lib.hid (Q.out.kept hk (by have h3 := AR.out; simp; omega))
              have K := Lib.hid (K.out.trans hk (fun i hi => .inr (by have h3 := AR.out; simp at hi; omega)))
              have SA := Lib.hid (BkArr.kept SA.out hk (fun i hi => by have h1 := NSA.out i hi; simp; omega))
              have SB := Lib.hid (BkArr.kept SB.out hk (fun i hi => by have h1 := NSB.out i hi; simp; omega))
              have Z2 := Lib.hid (Z2.out.kept hk (by have h3 := AR.out; simp; omega))
              have D1 := Lib.hid hb
              clear hb hk
              refine hKQ.out _ _ (fun o => P.out.cell o) (fun hHeld9 => ?_)
              clear hKQ KQ hHeld
              have hHeld := hHeld9
              clear hHeld9
              try simp only [Act.put]
              refine wpAnyH_ready (rs := [7]) (by kernel_rfl) (by simp) ?_
              refine AllReadyH.cons (o := ⟨none, _, _, _, _, _⟩) rfl (fun KQ hKQ => ?w7h1_11) AllReadyH.nil
              case w7h1_11 =>
                refine step_put (t := 29) rfl 29 (.tmp 8) (.tmp 21) rfl _ (by first | (simp [Act.eval]; done) | (simp [Act.eval]; rfl) | rfl) (by first | (simp [Act.eval]; done) | (simp [Act.eval]; rfl) | rfl) Z2.out (by rfl) (by kernel_rfl) (by simp [Value.oneCell']) ?_
                intro w7 hb hk
                have P := Lib.hid (P.out.kept hk (by have h3 := AR.out; simp; omega))
                have Q := Lib.hid (Q.out.kept hk (by have h3 := AR.out; simp; omega))
                have K := Lib.hid (K.out.trans hk (fun i hi => .inr (by have h3 := AR.out; simp at hi; omega)))
                have SA := Lib.hid (BkArr.kept SA.out hk (fun i hi => by have h1 := NSA.out i hi; simp; omega))
                have SB := Lib.hid (BkArr.kept SB.out hk (fun i hi => by have h1 := NSB.out i hi; simp; omega))
                have D1 := Lib.hid (D1.out.kept hk (by have h3 := AR.out; simp; omega))
                have D2 := Lib.hid hb
                clear hb hk
                refine hKQ.out _ _ (fun o => P.out.cell o) (fun hHeld9 => ?_)
                clear hKQ KQ hHeld
                have hHeld := hHeld9
                clear hHeld9
                try simp only [Act.put]
                refine wpAnyH_done (by kernel_rfl) ?_ _
                clear hHeld
                go_wp2_with fail
                go_meet
                exact ⟨⟨q1, q2, _, _, _, _, _, _, GA, GB, rfl, rfl, D1.out, D2.out, SA.out, SB.out, K.out⟩, P.out, Q.out⟩
      case w4h1_4 =>
        go_simp
        refine hKQ.out _ _ (fun o => (P.out.alloc _).cell o) (fun hHeld9 => ?_)
        clear hKQ KQ hHeld
        have hHeld := hHeld9
        clear hHeld9
        try simp only [Act.put, List.setIfInBounds_toArray, List.set_cons_zero, List.set_cons_succ]
        have hk : Kept [] wA (wA.alloc (.cells #[.int .i64 0, .int .u32 0, .int .u32 0, .int .i64 0, .int .i64 0, .int .i64 0, .int .i64 0, .int .i64 0, .int .i64 0, .int .i64 0, .slice none 0 0, .int .i64 0, .int .i64 0, .int .i64 0] 29)) := (Kept.refl [] _).alloc _
        have P := Lib.hid (P.out.kept hk (by simp))
        have Q := Lib.hid (Q.out.kept hk (by simp))
        have K := Lib.hid (K.out.trans hk (by simp))
        have SA := Lib.hid (BkArr.kept SA.out hk (by simp))
        have hz := show Blk (wA.alloc (.cells #[.int .i64 0, .int .u32 0, .int .u32 0, .int .i64 0, .int .i64 0, .int .i64 0, .int .i64 0, .int .i64 0, .int .i64 0, .int .i64 0, .slice none 0 0, .int .i64 0, .int .i64 0, .int .i64 0] 29)) wA.heap.size 29 #[.int .i64 0, .int .u32 0, .int .u32 0, .int .i64 0, .int .i64 0, .int .i64 0, .int .i64 0, .int .i64 0, .int .i64 0, .int .i64 0, .slice none 0 0, .int .i64 0, .int .i64 0, .int .i64 0] from by (repeat (first | (apply Blk.new'; simp; done) | apply Blk.alloc | apply Blk.drew))
        have he := show (wA.alloc (.cells #[.int .i64 0, .int .u32 0, .int .u32 0, .int .i64 0, .int .i64 0, .int .i64 0, .int .i64 0, .int .i64 0, .int .i64 0, .int .i64 0, .slice none 0 0, .int .i64 0, .int .i64 0, .int .i64 0] 29)).heap.size = wA.heap.size + 1 by simp
        obtain ⟨q1, hq⟩ : ∃ g, wA.heap.size = g := ⟨_, rfl⟩
        rw [hq] at he hz
        try simp only [hq]
        have HQ1 := Lib.hid hq
        have E1 := Lib.hid he
        have Z1 := Lib.hid hz
        clear hk he hz hq
        generalize (wA.alloc (.cells #[.int .i64 0, .int .u32 0, .int .u32 0, .int .i64 0, .int .i64 0, .int .i64 0, .int .i64 0, .int .i64 0, .int .i64 0, .int .i64 0, .slice none 0 0, .int .i64 0, .int .i64 0, .int .i64 0] 29)) = w4 at *
        refine wpAnyH_ready (rs := [3, 5]) (by kernel_rfl) (by simp) ?_
        refine AllReadyH.cons (o := ⟨some 21, _, _, _, _, _⟩) rfl (fun KQ hKQ => ?w3h1_12) (AllReadyH.cons (o := ⟨some 8, _, _, _, _, _⟩) rfl (fun KQ hKQ => ?w5h1_12) AllReadyH.nil)
        case w3h1_12 =>
          go_simp
          go_at_call 7
          with_reducible refine (rPlain_any _ r (Hs1.out g1 _ K.out)).mono ?_
          rintro e wB ⟨sl, rfl, hS⟩
          rw [EP.out] at hS ⊢
          have hk := LV.kept hS
          have KszB := Lib.hid hk.size
          have P := Lib.hid (P.out.kept hk (by simp))
          have Q := Lib.hid (Q.out.kept hk (by simp))
          have K := Lib.hid (K.out.trans hk (by simp))
          have SA := Lib.hid (BkArr.kept SA.out hk (by simp))
          have Z1 := Lib.hid (Z1.out.kept hk (by simp))
          obtain ⟨AB, mB, cB, rfl⟩ := BkV.form hS
          obtain ⟨GB, ha, hl⟩ := BkV.own hS
          have SB := Lib.hid ha
          have LSB := Lib.hid hl
          clear hS ha hl hk
          go_wp2_with fail
          refine hKQ.out _ _ (fun o => P.out.cell o) (fun hHeld9 => ?_)
          clear hKQ KQ hHeld
          have hHeld := hHeld9
          clear hHeld9
          try simp only [Act.put, List.setIfInBounds_toArray, List.set_cons_zero, List.set_cons_succ]
          refine wpAnyH_ready (rs := [5]) (by kernel_rfl) (by simp) ?_
          refine AllReadyH.cons (o := ⟨some 8, _, _, _, _, _⟩) rfl (fun KQ hKQ => ?w5h1_13) AllReadyH.nil
          case w5h1_13 =>
            go_simp
            refine hKQ.out _ _ (fun o => (P.out.alloc _).cell o) (fun hHeld9 => ?_)
            clear hKQ KQ hHeld
            have hHeld := hHeld9
            clear hHeld9
            try simp only [Act.put, List.setIfInBounds_toArray, List.set_cons_zero, List.set_cons_succ]
            have hk : Kept [] wB (wB.alloc (.cells #[.int .i64 0, .int .u32 0, .int .u32 0, .int .i64 0, .int .i64 0, .int .i64 0, .int .i64 0, .int .i64 0, .int .i64 0, .int .i64 0, .slice none 0 0, .int .i64 0, .int .i64 0, .int .i64 0] 29)) := (Kept.refl [] _).alloc _
            have P := Lib.hid (P.out.kept hk (by simp))
            have Q := Lib.hid (Q.out.kept hk (by simp))
            have K := Lib.hid (K.out.trans hk (by simp))
            have SA := Lib.hid (BkArr.kept SA.out hk (by simp))
            have Z1 := Lib.hid (Z1.out.kept hk (by simp))
            have SB := Lib.hid (BkArr.kept SB.out hk (by simp))
            have hz := show Blk (wB.alloc (.cells #[.int .i64 0, .int .u32 0, .int .u32 0, .int .i64 0, .int .i64 0, .int .i64 0, .int .i64 0, .int .i64 0, .int .i64 0, .int .i64 0, .slice none 0 0, .int .i64 0, .int .i64 0, .int .i64 0] 29)) wB.heap.size 29 #[.int .i64 0, .int .u32 0, .int .u32 0, .int .i64 0, .int .i64 0, .int .i64 0, .int .i64 0, .int .i64 0, .int .i64 0, .int .i64 0, .slice none 0 0, .int .i64 0, .int .i64 0, .int .i64 0] from by (repeat (first | (apply Blk.new'; simp; done) | apply Blk.alloc | apply Blk.drew))
            have he := show (wB.alloc (.cells #[.int .i64 0, .int .u32 0, .int .u32 0, .int .i64 0, .int .i64 0, .int .i64 0, .int .i64 0, .int .i64 0, .int .i64 0, .int .i64 0, .slice none 0 0, .int .i64 0, .int .i64 0, .int .i64 0] 29)).heap.size = wB.heap.size + 1 by simp
            obtain ⟨q2, hq⟩ : ∃ g, wB.heap.size = g := ⟨_, rfl⟩
            rw [hq] at he hz
            try simp only [hq]
            have HQ2 := Lib.hid hq
            have E2 := Lib.hid he
            have Z2 := Lib.hid hz
            clear hk he hz hq
            generalize (wB.alloc (.cells #[.int .i64 0, .int .u32 0, .int .u32 0, .int .i64 0, .int .i64 0, .int .i64 0, .int .i64 0, .int .i64 0, .int .i64 0, .int .i64 0, .slice none 0 0, .int .i64 0, .int .i64 0, .int .i64 0] 29)) = w5 at *
            have AR := Lib.hid (show w.heap.size + 1 < q1 ∧ w.heap.size + 1 < q2 ∧ q1 ≠ q2 from by have a0 := SZ0.out; have a1 := KszA.out; have a2 := HQ1.out; have a3 := E1.out; have a4 := KszB.out; have a5 := HQ2.out; have a6 := E2.out; omega)
            have NSA := Lib.hid (show ∀ i ∈ GA, i ≠ q1 ∧ i ≠ q2 from fun i hi => by have b := LSA.out i hi; have a0 := SZ0.out; have a1 := KszA.out; have a2 := HQ1.out; have a3 := E1.out; have a4 := KszB.out; have a5 := HQ2.out; have a6 := E2.out; omega)
            have NSB := Lib.hid (show ∀ i ∈ GB, i ≠ q1 ∧ i ≠ q2 from fun i hi => by have b := LSB.out i hi; have a0 := SZ0.out; have a1 := KszA.out; have a2 := HQ1.out; have a3 := E1.out; have a4 := KszB.out; have a5 := HQ2.out; have a6 := E2.out; omega)
            refine wpAnyH_ready (rs := [6]) (by kernel_rfl) (by simp) ?_
            refine AllReadyH.cons (o := ⟨none, _, _, _, _, _⟩) rfl (fun KQ hKQ => ?w6h1_14) AllReadyH.nil
            case w6h1_14 =>
              refine step_put (t := 29) rfl 29 (.tmp 7) (.tmp 19) rfl _ (by first | (simp [Act.eval]; done) | (simp [Act.eval]; rfl) | rfl) (by first | (simp [Act.eval]; done) | (simp [Act.eval]; rfl) | rfl) Z1.out (by rfl) (by kernel_rfl) (by simp [Value.oneCell']) ?_
              intro w6 hb hk
              have P := Lib.hid (P.out.kept hk (by have h3 := AR.out; simp; omega))
              have Q := Lib.hid (Q.out.kept hk (by have h3 := AR.out; simp; omega))
              have K := Lib.hid (K.out.trans hk (fun i hi => .inr (by have h3 := AR.out; simp at hi; omega)))
              have SA := Lib.hid (BkArr.kept SA.out hk (fun i hi => by have h1 := NSA.out i hi; simp; omega))
              have SB := Lib.hid (BkArr.kept SB.out hk (fun i hi => by have h1 := NSB.out i hi; simp; omega))
              have Z2 := Lib.hid (Z2.out.kept hk (by have h3 := AR.out; simp; omega))
              have D1 := Lib.hid hb
              clear hb hk
              refine hKQ.out _ _ (fun o => P.out.cell o) (fun hHeld9 => ?_)
              clear hKQ KQ hHeld
              have hHeld := hHeld9
              clear hHeld9
              try simp only [Act.put]
              refine wpAnyH_ready (rs := [7]) (by kernel_rfl) (by simp) ?_
              refine AllReadyH.cons (o := ⟨none, _, _, _, _, _⟩) rfl (fun KQ hKQ => ?w7h1_15) AllReadyH.nil
              case w7h1_15 =>
                refine step_put (t := 29) rfl 29 (.tmp 8) (.tmp 21) rfl _ (by first | (simp [Act.eval]; done) | (simp [Act.eval]; rfl) | rfl) (by first | (simp [Act.eval]; done) | (simp [Act.eval]; rfl) | rfl) Z2.out (by rfl) (by kernel_rfl) (by simp [Value.oneCell']) ?_
                intro w7 hb hk
                have P := Lib.hid (P.out.kept hk (by have h3 := AR.out; simp; omega))
                have Q := Lib.hid (Q.out.kept hk (by have h3 := AR.out; simp; omega))
                have K := Lib.hid (K.out.trans hk (fun i hi => .inr (by have h3 := AR.out; simp at hi; omega)))
                have SA := Lib.hid (BkArr.kept SA.out hk (fun i hi => by have h1 := NSA.out i hi; simp; omega))
                have SB := Lib.hid (BkArr.kept SB.out hk (fun i hi => by have h1 := NSB.out i hi; simp; omega))
                have D1 := Lib.hid (D1.out.kept hk (by have h3 := AR.out; simp; omega))
                have D2 := Lib.hid hb
                clear hb hk
                refine hKQ.out _ _ (fun o => P.out.cell o) (fun hHeld9 => ?_)
                clear hKQ KQ hHeld
                have hHeld := hHeld9
                clear hHeld9
                try simp only [Act.put]
                refine wpAnyH_done (by kernel_rfl) ?_ _
                clear hHeld
                go_wp2_with fail
                go_meet
                exact ⟨⟨q1, q2, _, _, _, _, _, _, GA, GB, rfl, rfl, D1.out, D2.out, SA.out, SB.out, K.out⟩, P.out, Q.out⟩
        case w5h1_12 =>
          go_simp
          refine hKQ.out _ _ (fun o => (P.out.alloc _).cell o) (fun hHeld9 => ?_)
          clear hKQ KQ hHeld
          have hHeld := hHeld9
          clear hHeld9
          try simp only [Act.put, List.setIfInBounds_toArray, List.set_cons_zero, List.set_cons_succ]
          have hk : Kept [] w4 (w4.alloc (.cells #[.int .i64 0, .int .u32 0, .int .u32 0, .int .i64 0, .int .i64 0, .int .i64 0, .int .i64 0, .int .i64 0, .int .i64 0, .int .i64 0, .slice none 0 0, .int .i64 0, .int .i64 0, .int .i64 0] 29)) := (Kept.refl [] _).alloc _
          have P := Lib.hid (P.out.kept hk (by simp))
          have Q := Lib.hid (Q.out.kept hk (by simp))
          have K := Lib.hid (K.out.trans hk (by simp))
          have SA := Lib.hid (BkArr.kept SA.out hk (by simp))
          have Z1 := Lib.hid (Z1.out.kept hk (by simp))
          have hz := show Blk (w4.alloc (.cells #[.int .i64 0, .int .u32 0, .int .u32 0, .int .i64 0, .int .i64 0, .int .i64 0, .int .i64 0, .int .i64 0, .int .i64 0, .int .i64 0, .slice none 0 0, .int .i64 0, .int .i64 0, .int .i64 0] 29)) w4.heap.size 29 #[.int .i64 0, .int .u32 0, .int .u32 0, .int .i64 0, .int .i64 0, .int .i64 0, .int .i64 0, .int .i64 0, .int .i64 0, .int .i64 0, .slice none 0 0, .int .i64 0, .int .i64 0, .int .i64 0] from by (repeat (first | (apply Blk.new'; simp; done) | apply Blk.alloc | apply Blk.drew))
          have he := show (w4.alloc (.cells #[.int .i64 0, .int .u32 0, .int .u32 0, .int .i64 0, .int .i64 0, .int .i64 0, .int .i64 0, .int .i64 0, .int .i64 0, .int .i64 0, .slice none 0 0, .int .i64 0, .int .i64 0, .int .i64 0] 29)).heap.size = w4.heap.size + 1 by simp
          obtain ⟨q2, hq⟩ : ∃ g, w4.heap.size = g := ⟨_, rfl⟩
          rw [hq] at he hz
          try simp only [hq]
          have HQ2 := Lib.hid hq
          have E2 := Lib.hid he
          have Z2 := Lib.hid hz
          clear hk he hz hq
          generalize (w4.alloc (.cells #[.int .i64 0, .int .u32 0, .int .u32 0, .int .i64 0, .int .i64 0, .int .i64 0, .int .i64 0, .int .i64 0, .int .i64 0, .int .i64 0, .slice none 0 0, .int .i64 0, .int .i64 0, .int .i64 0] 29)) = w5 at *
          refine wpAnyH_ready (rs := [3]) (by kernel_rfl) (by simp) ?_
          refine AllReadyH.cons (o := ⟨some 21, _, _, _, _, _⟩) rfl (fun KQ hKQ => ?w3h1_16) AllReadyH.nil
          case w3h1_16 =>
            go_simp
            go_at_call 7
            with_reducible refine (rPlain_any _ r (Hs1.out g1 _ K.out)).mono ?_
            rintro e wB ⟨sl, rfl, hS⟩
            rw [EP.out] at hS ⊢
            have hk := LV.kept hS
            have KszB := Lib.hid hk.size
            have P := Lib.hid (P.out.kept hk (by simp))
            have Q := Lib.hid (Q.out.kept hk (by simp))
            have K := Lib.hid (K.out.trans hk (by simp))
            have SA := Lib.hid (BkArr.kept SA.out hk (by simp))
            have Z1 := Lib.hid (Z1.out.kept hk (by simp))
            have Z2 := Lib.hid (Z2.out.kept hk (by simp))
            obtain ⟨AB, mB, cB, rfl⟩ := BkV.form hS
            obtain ⟨GB, ha, hl⟩ := BkV.own hS
            have SB := Lib.hid ha
            have LSB := Lib.hid hl
            clear hS ha hl hk
            go_wp2_with fail
            refine hKQ.out _ _ (fun o => P.out.cell o) (fun hHeld9 => ?_)
            clear hKQ KQ hHeld
            have hHeld := hHeld9
            clear hHeld9
            try simp only [Act.put, List.setIfInBounds_toArray, List.set_cons_zero, List.set_cons_succ]
            have AR := Lib.hid (show w.heap.size + 1 < q1 ∧ w.heap.size + 1 < q2 ∧ q1 ≠ q2 from by have a0 := SZ0.out; have a1 := KszA.out; have a2 := HQ1.out; have a3 := E1.out; have a4 := HQ2.out; have a5 := E2.out; have a6 := KszB.out; omega)
            have NSA := Lib.hid (show ∀ i ∈ GA, i ≠ q1 ∧ i ≠ q2 from fun i hi => by have b := LSA.out i hi; have a0 := SZ0.out; have a1 := KszA.out; have a2 := HQ1.out; have a3 := E1.out; have a4 := HQ2.out; have a5 := E2.out; have a6 := KszB.out; omega)
            have NSB := Lib.hid (show ∀ i ∈ GB, i ≠ q1 ∧ i ≠ q2 from fun i hi => by have b := LSB.out i hi; have a0 := SZ0.out; have a1 := KszA.out; have a2 := HQ1.out; have a3 := E1.out; have a4 := HQ2.out; have a5 := E2.out; have a6 := KszB.out; omega)
            refine wpAnyH_ready (rs := [6]) (by kernel_rfl) (by simp) ?_
            refine AllReadyH.cons (o := ⟨none, _, _, _, _, _⟩) rfl (fun KQ hKQ => ?w6h1_17) AllReadyH.nil
            case w6h1_17 =>
              refine step_put (t := 29) rfl 29 (.tmp 7) (.tmp 19) rfl _ (by first | (simp [Act.eval]; done) | (simp [Act.eval]; rfl) | rfl) (by first | (simp [Act.eval]; done) | (simp [Act.eval]; rfl) | rfl) Z1.out (by rfl) (by kernel_rfl) (by simp [Value.oneCell']) ?_
              intro w6 hb hk
              have P := Lib.hid (P.out.kept hk (by have h3 := AR.out; simp; omega))
              have Q := Lib.hid (Q.out.kept hk (by have h3 := AR.out; simp; omega))
              have K := Lib.hid (K.out.trans hk (fun i hi => .inr (by have h3 := AR.out; simp at hi; omega)))
              have SA := Lib.hid (BkArr.kept SA.out hk (fun i hi => by have h1 := NSA.out i hi; simp; omega))
              have Z2 := Lib.hid (Z2.out.kept hk (by have h3 := AR.out; simp; omega))
              have SB := Lib.hid (BkArr.kept SB.out hk (fun i hi => by have h1 := NSB.out i hi; simp; omega))
              have D1 := Lib.hid hb
              clear hb hk
              refine hKQ.out _ _ (fun o => P.out.cell o) (fun hHeld9 => ?_)
              clear hKQ KQ hHeld
              have hHeld := hHeld9
              clear hHeld9
              try simp only [Act.put]
              refine wpAnyH_ready (rs := [7]) (by kernel_rfl) (by simp) ?_
              refine AllReadyH.cons (o := ⟨none, _, _, _, _, _⟩) rfl (fun KQ hKQ => ?w7h1_18) AllReadyH.nil
              case w7h1_18 =>
                refine step_put (t := 29) rfl 29 (.tmp 8) (.tmp 21) rfl _ (by first | (simp [Act.eval]; done) | (simp [Act.eval]; rfl) | rfl) (by first | (simp [Act.eval]; done) | (simp [Act.eval]; rfl) | rfl) Z2.out (by rfl) (by kernel_rfl) (by simp [Value.oneCell']) ?_
                intro w7 hb hk
                have P := Lib.hid (P.out.kept hk (by have h3 := AR.out; simp; omega))
                have Q := Lib.hid (Q.out.kept hk (by have h3 := AR.out; simp; omega))
                have K := Lib.hid (K.out.trans hk (fun i hi => .inr (by have h3 := AR.out; simp at hi; omega)))
                have SA := Lib.hid (BkArr.kept SA.out hk (fun i hi => by have h1 := NSA.out i hi; simp; omega))
                have SB := Lib.hid (BkArr.kept SB.out hk (fun i hi => by have h1 := NSB.out i hi; simp; omega))
                have D1 := Lib.hid (D1.out.kept hk (by have h3 := AR.out; simp; omega))
                have D2 := Lib.hid hb
                clear hb hk
                refine hKQ.out _ _ (fun o => P.out.cell o) (fun hHeld9 => ?_)
                clear hKQ KQ hHeld
                have hHeld := hHeld9
                clear hHeld9
                try simp only [Act.put]
                refine wpAnyH_done (by kernel_rfl) ?_ _
                clear hHeld
                go_wp2_with fail
                go_meet
                exact ⟨⟨q1, q2, _, _, _, _, _, _, GA, GB, rfl, rfl, D1.out, D2.out, SA.out, SB.out, K.out⟩, P.out, Q.out⟩
      case w5h1_4 =>
        go_simp
        refine hKQ.out _ _ (fun o => (P.out.alloc _).cell o) (fun hHeld9 => ?_)
        clear hKQ KQ hHeld
        have hHeld := hHeld9
        clear hHeld9
        try simp only [Act.put, List.setIfInBounds_toArray, List.set_cons_zero, List.set_cons_succ]
        have hk : Kept [] wA (wA.alloc (.cells #[.int .i64 0, .int .u32 0, .int .u32 0, .int .i64 0, .int .i64 0, .int .i64 0, .int .i64 0, .int .i64 0, .int .i64 0, .int .i64 0, .slice none 0 0, .int .i64 0, .int .i64 0, .int .i64 0] 29)) := (Kept.refl [] _).alloc _
        have P := Lib.hid (P.out.kept hk (by simp))
        have Q := Lib.hid (Q.out.kept hk (by simp))
        have K := Lib.hid (K.out.trans hk (by simp))
        have SA := Lib.hid (BkArr.kept SA.out hk (by simp))
        have hz := show Blk (wA.alloc (.cells #[.int .i64 0, .int .u32 0, .int .u32 0, .int .i64 0, .int .i64 0, .int .i64 0, .int .i64 0, .int .i64 0, .int .i64 0, .int .i64 0, .slice none 0 0, .int .i64 0, .int .i64 0, .int .i64 0] 29)) wA.heap.size 29 #[.int .i64 0, .int .u32 0, .int .u32 0, .int .i64 0, .int .i64 0, .int .i64 0, .int .i64 0, .int .i64 0, .int .i64 0, .int .i64 0, .slice none 0 0, .int .i64 0, .int .i64 0, .int .i64 0] from by (repeat (first | (apply Blk.new'; simp; done) | apply Blk.alloc | apply Blk.drew))
        have he := show (wA.alloc (.cells #[.int .i64 0, .int .u32 0, .int .u32 0, .int .i64 0, .int .i64 0, .int .i64 0, .int .i64 0, .int .i64 0, .int .i64 0, .int .i64 0, .slice none 0 0, .int .i64 0, .int .i64 0, .int .i64 0] 29)).heap.size = wA.heap.size + 1 by simp
        obtain ⟨q2, hq⟩ : ∃ g, wA.heap.size = g := ⟨_, rfl⟩
        rw [hq] at he hz
        try simp only [hq]
        have HQ2 := Lib.hid hq
        have E2 := Lib.hid he
        have Z2 := Lib.hid hz
        clear hk he hz hq
        generalize (wA.alloc (.cells #[.int .i64 0, .int .u32 0, .int .u32 0, .int .i64 0, .int .i64 0, .int .i64 0, .int .i64 0, .int .i64 0, .int .i64 0, .int .i64 0, .slice none 0 0, .int .i64 0, .int .i64 0, .int .i64 0] 29)) = w5 at *
        refine wpAnyH_ready (rs := [3, 4]) (by kernel_rfl) (by simp) ?_
        refine AllReadyH.cons (o := ⟨some 21, _, _, _, _, _⟩) rfl (fun KQ hKQ => ?w3h1_19) (AllReadyH.cons (o := ⟨some 7, _, _, _, _, _⟩) rfl (fun KQ hKQ => ?w4h1_19) AllReadyH.nil)
        case w3h1_19 =>
          go_simp
          go_at_call 7
          with_reducible refine (rPlain_any _ r (Hs1.out g1 _ K.out)).mono ?_
          rintro e wB ⟨sl, rfl, hS⟩
          rw [EP.out] at hS ⊢
          have hk := LV.kept hS
          have KszB := Lib.hid hk.size
          have P := Lib.hid (P.out.kept hk (by simp))
          have Q := Lib.hid (Q.out.kept hk (by simp))
          have K := Lib.hid (K.out.trans hk (by simp))
          have SA := Lib.hid (BkArr.kept SA.out hk (by simp))
          have Z2 := Lib.hid (Z2.out.kept hk (by simp))
          obtain ⟨AB, mB, cB, rfl⟩ := BkV.form hS
          obtain ⟨GB, ha, hl⟩ := BkV.own hS
          have SB := Lib.hid ha
          have LSB := Lib.hid hl
          clear hS ha hl hk
          go_wp2_with fail
          refine hKQ.out _ _ (fun o => P.out.cell o) (fun hHeld9 => ?_)
          clear hKQ KQ hHeld
          have hHeld := hHeld9
          clear hHeld9
          try simp only [Act.put, List.setIfInBounds_toArray, List.set_cons_zero, List.set_cons_succ]
          refine wpAnyH_ready (rs := [4]) (by kernel_rfl) (by simp) ?_
          refine AllReadyH.cons (o := ⟨some 7, _, _, _, _, _⟩) rfl (fun KQ hKQ => ?w4h1_20) AllReadyH.nil
          case w4h1_20 =>
            go_simp
            refine hKQ.out _ _ (fun o => (P.out.alloc _).cell o) (fun hHeld9 => ?_)
            clear hKQ KQ hHeld
            have hHeld := hHeld9
            clear hHeld9
            try simp only [Act.put, List.setIfInBounds_toArray, List.set_cons_zero, List.set_cons_succ]
            have hk : Kept [] wB (wB.alloc (.cells #[.int .i64 0, .int .u32 0, .int .u32 0, .int .i64 0, .int .i64 0, .int .i64 0, .int .i64 0, .int .i64 0, .int .i64 0, .int .i64 0, .slice none 0 0, .int .i64 0, .int .i64 0, .int .i64 0] 29)) := (Kept.refl [] _).alloc _
            have P := Lib.hid (P.out.kept hk (by simp))
            have Q := Lib.hid (Q.out.kept hk (by simp))
            have K := Lib.hid (K.out.trans hk (by simp))
            have SA := Lib.hid (BkArr.kept SA.out hk (by simp))
            have Z2 := Lib.hid (Z2.out.kept hk (by simp))
            have SB := Lib.hid (BkArr.kept SB.out hk (by simp))
            have hz := show Blk (wB.alloc (.cells #[.int .i64 0, .int .u32 0, .int .u32 0, .int .i64 0, .int .i64 0, .int .i64 0, .int .i64 0, .int .i64 0, .int .i64 0, .int .i64 0, .slice none 0 0, .int .i64 0, .int .i64 0, .int .i64 0] 29)) wB.heap.size 29 #[.int .i64 0, .int .u32 0, .int .u32 0, .int .i64 0, .int .i64 0, .int .i64 0, .int .i64 0, .int .i64 0, .int .i64 0, .int .i64 0, .slice none 0 0, .int .i64 0, .int .i64 0, .int .i64 0] from by (repeat (first | (apply Blk.new'; simp; done) | apply Blk.alloc | apply Blk.drew))
            have he := show (wB.alloc (.cells #[.int .i64 0, .int .u32 0, .int .u32 0, .int .i64 0, .int .i64 0, .int .i64 0, .int .i64 0, .int .i64 0, .int .i64 0, .int .i64 0, .slice none 0 0, .int .i64 0, .int .i64 0, .int .i64 0] 29)).heap.size = wB.heap.size + 1 by simp
            obtain ⟨q1, hq⟩ : ∃ g, wB.heap.size = g := ⟨_, rfl⟩
            rw [hq] at he hz
            try simp only [hq]
            have HQ1 := Lib.hid hq
            have E1 := Lib.hid he
            have Z1 := Lib.hid hz
            clear hk he hz hq
            generalize (wB.alloc (.cells #[.int .i64 0, .int .u32 0, .int .u32 0, .int .i64 0, .int .i64 0, .int .i64 0, .int .i64 0, .int .i64 0, .int .i64 0, .int .i64 0, .slice none 0 0, .int .i64 0, .int .i64 0, .int .i64 0] 29)) = w4 at *
            have AR := Lib.hid (show w.heap.size + 1 < q1 ∧ w.heap.size + 1 < q2 ∧ q1 ≠ q2 from by have a0 := SZ0.out; have a1 := KszA.out; have a2 := HQ2.out; have a3 := E2.out; have a4 := KszB.out; have a5 := HQ1.out; have a6 := E1.out; omega)
            have NSA := Lib.hid (show ∀ i ∈ GA, i ≠ q1 ∧ i ≠ q2 from fun i hi => by have b := LSA.out i hi; have a0 := SZ0.out; have a1 := KszA.out; have a2 := HQ2.out; have a3 := E2.out; have a4 := KszB.out; have a5 := HQ1.out; have a6 := E1.out; omega)
            have NSB := Lib.hid (show ∀ i ∈ GB, i ≠ q1 ∧ i ≠ q2 from fun i hi => by have b := LSB.out i hi; have a0 := SZ0.out; have a1 := KszA.out; have a2 := HQ2.out; have a3 := E2.out; have a4 := KszB.out; have a5 := HQ1.out; have a6 := E1.out; omega)
            refine wpAnyH_ready (rs := [6]) (by kernel_rfl) (by simp) ?_
            refine AllReadyH.cons (o := ⟨none, _, _, _, _, _⟩) rfl (fun KQ hKQ => ?w6h1_21) AllReadyH.nil
            case w6h1_21 =>
              refine step_put (t := 29) rfl 29 (.tmp 7) (.tmp 19) rfl _ (by first | (simp [Act.eval]; done) | (simp [Act.eval]; rfl) | rfl) (by first | (simp [Act.eval]; done) | (simp [Act.eval]; rfl) | rfl) Z1.out (by rfl) (by kernel_rfl) (by simp [Value.oneCell']) ?_
              intro w6 hb hk
              have P := Lib.hid (P.out.kept hk (by have h3 := AR.out; simp; omega))
              have Q := Lib.hid (Q.out.kept hk (by have h3 := AR.out; simp; omega))
              have K := Lib.hid (K.out.trans hk (fun i hi => .inr (by have h3 := AR.out; simp at hi; omega)))
              have SA := Lib.hid (BkArr.kept SA.out hk (fun i hi => by have h1 := NSA.out i hi; simp; omega))
              have Z2 := Lib.hid (Z2.out.kept hk (by have h3 := AR.out; simp; omega))
              have SB := Lib.hid (BkArr.kept SB.out hk (fun i hi => by have h1 := NSB.out i hi; simp; omega))
              have D1 := Lib.hid hb
              clear hb hk
              refine hKQ.out _ _ (fun o => P.out.cell o) (fun hHeld9 => ?_)
              clear hKQ KQ hHeld
              have hHeld := hHeld9
              clear hHeld9
              try simp only [Act.put]
              refine wpAnyH_ready (rs := [7]) (by kernel_rfl) (by simp) ?_
              refine AllReadyH.cons (o := ⟨none, _, _, _, _, _⟩) rfl (fun KQ hKQ => ?w7h1_22) AllReadyH.nil
              case w7h1_22 =>
                refine step_put (t := 29) rfl 29 (.tmp 8) (.tmp 21) rfl _ (by first | (simp [Act.eval]; done) | (simp [Act.eval]; rfl) | rfl) (by first | (simp [Act.eval]; done) | (simp [Act.eval]; rfl) | rfl) Z2.out (by rfl) (by kernel_rfl) (by simp [Value.oneCell']) ?_
                intro w7 hb hk
                have P := Lib.hid (P.out.kept hk (by have h3 := AR.out; simp; omega))
                have Q := Lib.hid (Q.out.kept hk (by have h3 := AR.out; simp; omega))
                have K := Lib.hid (K.out.trans hk (fun i hi => .inr (by have h3 := AR.out; simp at hi; omega)))
                have SA := Lib.hid (BkArr.kept SA.out hk (fun i hi => by have h1 := NSA.out i hi; simp; omega))
                have SB := Lib.hid (BkArr.kept SB.out hk (fun i hi => by have h1 := NSB.out i hi; simp; omega))
                have D1 := Lib.hid (D1.out.kept hk (by have h3 := AR.out; simp; omega))
                have D2 := Lib.hid hb
                clear hb hk
                refine hKQ.out _ _ (fun o => P.out.cell o) (fun hHeld9 => ?_)
                clear hKQ KQ hHeld
                have hHeld := hHeld9
                clear hHeld9
                try simp only [Act.put]
                refine wpAnyH_done (by kernel_rfl) ?_ _
                clear hHeld
                go_wp2_with fail
                go_meet
                exact ⟨⟨q1, q2, _, _, _, _, _, _, GA, GB, rfl, rfl, D1.out, D2.out, SA.out, SB.out, K.out⟩, P.out, Q.out⟩
        case w4h1_19 =>
          go_simp
          refine hKQ.out _ _ (fun o => (P.out.alloc _).cell o) (fun hHeld9 => ?_)
          clear hKQ KQ hHeld
          have hHeld := hHeld9
          clear hHeld9
          try simp only [Act.put, List.setIfInBounds_toArray, List.set_cons_zero, List.set_cons_succ]
          have hk : Kept [] w5 (w5.alloc (.cells #[.int .i64 0, .int .u32 0, .int .u32 0, .int .i64 0, .int .i64 0, .int .i64 0, .int .i64 0, .int .i64 0, .int .i64 0, .int .i64 0, .slice none 0 0, .int .i64 0, .int .i64 0, .int .i64 0] 29)) := (Kept.refl [] _).alloc _
          have P := Lib.hid (P.out.kept hk (by simp))
          have Q := Lib.hid (Q.out.kept hk (by simp))
          have K := Lib.hid (K.out.trans hk (by simp))
          have SA := Lib.hid (BkArr.kept SA.out hk (by simp))
          have Z2 := Lib.hid (Z2.out.kept hk (by simp))
          have hz := show Blk (w5.alloc (.cells #[.int .i64 0, .int .u32 0, .int .u32 0, .int .i64 0, .int .i64 0, .int .i64 0, .int .i64 0, .int .i64 0, .int .i64 0, .int .i64 0, .slice none 0 0, .int .i64 0, .int .i64 0, .int .i64 0] 29)) w5.heap.size 29 #[.int .i64 0, .int .u32 0, .int .u32 0, .int .i64 0, .int .i64 0, .int .i64 0, .int .i64 0, .int .i64 0, .int .i64 0, .int .i64 0, .slice none 0 0, .int .i64 0, .int .i64 0, .int .i64 0] from by (repeat (first | (apply Blk.new'; simp; done) | apply Blk.alloc | apply Blk.drew))
          have he := show (w5.alloc (.cells #[.int .i64 0, .int .u32 0, .int .u32 0, .int .i64 0, .int .i64 0, .int .i64 0, .int .i64 0, .int .i64 0, .int .i64 0, .int .i64 0, .slice none 0 0, .int .i64 0, .int .i64 0, .int .i64 0] 29)).heap.size = w5.heap.size + 1 by simp
          obtain ⟨q1, hq⟩ : ∃ g, w5.heap.size = g := ⟨_, rfl⟩
          rw [hq] at he hz
          try simp only [hq]
          have HQ1 := Lib.hid hq
          have E1 := Lib.hid he
          have Z1 := Lib.hid hz
          clear hk he hz hq
          generalize (w5.alloc (.cells #[.int .i64 0, .int .u32 0, .int .u32 0, .int .i64 0, .int .i64 0, .int .i64 0, .int .i64 0, .int .i64 0, .int .i64 0, .int .i64 0, .slice none 0 0, .int .i64 0, .int .i64 0, .int .i64 0] 29)) = w4 at *
          refine wpAnyH_ready (rs := [3]) (by kernel_rfl) (by simp) ?_
          refine AllReadyH.cons (o := ⟨some 21, _, _, _, _, _⟩) rfl (fun KQ hKQ => ?w3h1_23) AllReadyH.nil
          case w3h1_23 =>
            go_simp
            go_at_call 7
            with_reducible refine (rPlain_any _ r (Hs1.out g1 _ K.out)).mono ?_
            rintro e wB ⟨sl, rfl, hS⟩
            rw [EP.out] at hS ⊢
            have hk := LV.kept hS
            have KszB := Lib.hid hk.size
            have P := Lib.hid (P.out.kept hk (by simp))
            have Q := Lib.hid (Q.out.kept hk (by simp))
            have K := Lib.hid (K.out.trans hk (by simp))
            have SA := Lib.hid (BkArr.kept SA.out hk (by simp))
            have Z2 := Lib.hid (Z2.out.kept hk (by simp))
            have Z1 := Lib.hid (Z1.out.kept hk (by simp))
            obtain ⟨AB, mB, cB, rfl⟩ := BkV.form hS
            obtain ⟨GB, ha, hl⟩ := BkV.own hS
            have SB := Lib.hid ha
            have LSB := Lib.hid hl
            clear hS ha hl hk
            go_wp2_with fail
            refine hKQ.out _ _ (fun o => P.out.cell o) (fun hHeld9 => ?_)
            clear hKQ KQ hHeld
            have hHeld := hHeld9
            clear hHeld9
            try simp only [Act.put, List.setIfInBounds_toArray, List.set_cons_zero, List.set_cons_succ]
            have AR := Lib.hid (show w.heap.size + 1 < q1 ∧ w.heap.size + 1 < q2 ∧ q1 ≠ q2 from by have a0 := SZ0.out; have a1 := KszA.out; have a2 := HQ2.out; have a3 := E2.out; have a4 := HQ1.out; have a5 := E1.out; have a6 := KszB.out; omega)
            have NSA := Lib.hid (show ∀ i ∈ GA, i ≠ q1 ∧ i ≠ q2 from fun i hi => by have b := LSA.out i hi; have a0 := SZ0.out; have a1 := KszA.out; have a2 := HQ2.out; have a3 := E2.out; have a4 := HQ1.out; have a5 := E1.out; have a6 := KszB.out; omega)
            have NSB := Lib.hid (show ∀ i ∈ GB, i ≠ q1 ∧ i ≠ q2 from fun i hi => by have b := LSB.out i hi; have a0 := SZ0.out; have a1 := KszA.out; have a2 := HQ2.out; have a3 := E2.out; have a4 := HQ1.out; have a5 := E1.out; have a6 := KszB.out; omega)
            refine wpAnyH_ready (rs := [6]) (by kernel_rfl) (by simp) ?_
            refine AllReadyH.cons (o := ⟨none, _, _, _, _, _⟩) rfl (fun KQ hKQ => ?w6h1_24) AllReadyH.nil
            case w6h1_24 =>
              refine step_put (t := 29) rfl 29 (.tmp 7) (.tmp 19) rfl _ (by first | (simp [Act.eval]; done) | (simp [Act.eval]; rfl) | rfl) (by first | (simp [Act.eval]; done) | (simp [Act.eval]; rfl) | rfl) Z1.out (by rfl) (by kernel_rfl) (by simp [Value.oneCell']) ?_
              intro w6 hb hk
              have P := Lib.hid (P.out.kept hk (by have h3 := AR.out; simp; omega))
              have Q := Lib.hid (Q.out.kept hk (by have h3 := AR.out; simp; omega))
              have K := Lib.hid (K.out.trans hk (fun i hi => .inr (by have h3 := AR.out; simp at hi; omega)))
              have SA := Lib.hid (BkArr.kept SA.out hk (fun i hi => by have h1 := NSA.out i hi; simp; omega))
              have Z2 := Lib.hid (Z2.out.kept hk (by have h3 := AR.out; simp; omega))
              have SB := Lib.hid (BkArr.kept SB.out hk (fun i hi => by have h1 := NSB.out i hi; simp; omega))
              have D1 := Lib.hid hb
              clear hb hk
              refine hKQ.out _ _ (fun o => P.out.cell o) (fun hHeld9 => ?_)
              clear hKQ KQ hHeld
              have hHeld := hHeld9
              clear hHeld9
              try simp only [Act.put]
              refine wpAnyH_ready (rs := [7]) (by kernel_rfl) (by simp) ?_
              refine AllReadyH.cons (o := ⟨none, _, _, _, _, _⟩) rfl (fun KQ hKQ => ?w7h1_25) AllReadyH.nil
              case w7h1_25 =>
                refine step_put (t := 29) rfl 29 (.tmp 8) (.tmp 21) rfl _ (by first | (simp [Act.eval]; done) | (simp [Act.eval]; rfl) | rfl) (by first | (simp [Act.eval]; done) | (simp [Act.eval]; rfl) | rfl) Z2.out (by rfl) (by kernel_rfl) (by simp [Value.oneCell']) ?_
                intro w7 hb hk
                have P := Lib.hid (P.out.kept hk (by have h3 := AR.out; simp; omega))
                have Q := Lib.hid (Q.out.kept hk (by have h3 := AR.out; simp; omega))
                have K := Lib.hid (K.out.trans hk (fun i hi => .inr (by have h3 := AR.out; simp at hi; omega)))
                have SA := Lib.hid (BkArr.kept SA.out hk (fun i hi => by have h1 := NSA.out i hi; simp; omega))
                have SB := Lib.hid (BkArr.kept SB.out hk (fun i hi => by have h1 := NSB.out i hi; simp; omega))
                have D1 := Lib.hid (D1.out.kept hk (by have h3 := AR.out; simp; omega))
                have D2 := Lib.hid hb
                clear hb hk
                refine hKQ.out _ _ (fun o => P.out.cell o) (fun hHeld9 => ?_)
                clear hKQ KQ hHeld
                have hHeld := hHeld9
                clear hHeld9
                try simp only [Act.put]
                refine wpAnyH_done (by kernel_rfl) ?_ _
                clear hHeld
                go_wp2_with fail
                go_meet
                exact ⟨⟨q1, q2, _, _, _, _, _, _, GA, GB, rfl, rfl, D1.out, D2.out, SA.out, SB.out, K.out⟩, P.out, Q.out⟩
    case w4h1_3 =>
      go_simp
      refine hKQ.out _ _ (fun o => (P.out.alloc _).cell o) (fun hHeld9 => ?_)
      clear hKQ KQ hHeld
      have hHeld := hHeld9
      clear hHeld9
      try simp only [Act.put, List.setIfInBounds_toArray, List.set_cons_zero, List.set_cons_succ]
      have hk : Kept [] w3 (w3.alloc (.cells #[.int .i64 0, .int .u32 0, .int .u32 0, .int .i64 0, .int .i64 0, .int .i64 0, .int .i64 0, .int .i64 0, .int .i64 0, .int .i64 0, .slice none 0 0, .int .i64 0, .int .i64 0, .int .i64 0] 29)) := (Kept.refl [] _).alloc _
      have P := Lib.hid (P.out.kept hk (by simp))
      have Q := Lib.hid (Q.out.kept hk (by simp))
      have K := Lib.hid (K.out.trans hk (by simp))
      have hz := show Blk (w3.alloc (.cells #[.int .i64 0, .int .u32 0, .int .u32 0, .int .i64 0, .int .i64 0, .int .i64 0, .int .i64 0, .int .i64 0, .int .i64 0, .int .i64 0, .slice none 0 0, .int .i64 0, .int .i64 0, .int .i64 0] 29)) w3.heap.size 29 #[.int .i64 0, .int .u32 0, .int .u32 0, .int .i64 0, .int .i64 0, .int .i64 0, .int .i64 0, .int .i64 0, .int .i64 0, .int .i64 0, .slice none 0 0, .int .i64 0, .int .i64 0, .int .i64 0] from by (repeat (first | (apply Blk.new'; simp; done) | apply Blk.alloc | apply Blk.drew))
      have he := show (w3.alloc (.cells #[.int .i64 0, .int .u32 0, .int .u32 0, .int .i64 0, .int .i64 0, .int .i64 0, .int .i64 0, .int .i64 0, .int .i64 0, .int .i64 0, .slice none 0 0, .int .i64 0, .int .i64 0, .int .i64 0] 29)).heap.size = w3.heap.size + 1 by simp
      obtain ⟨q1, hq⟩ : ∃ g, w3.heap.size = g := ⟨_, rfl⟩
      rw [hq] at he hz
      try simp only [hq]
      have HQ1 := Lib.hid hq
      have E1 := Lib.hid he
      have Z1 := Lib.hid hz
      clear hk he hz hq
      generalize (w3.alloc (.cells #[.int .i64 0, .int .u32 0, .int .u32 0, .int .i64 0, .int .i64 0, .int .i64 0, .int .i64 0, .int .i64 0, .int .i64 0, .int .i64 0, .slice none 0 0, .int .i64 0, .int .i64 0, .int .i64 0] 29)) = w4 at *
      refine wpAnyH_ready (rs := [1, 5]) (by kernel_rfl) (by simp) ?_
      refine AllReadyH.cons (o := ⟨some 19, _, _, _, _, _⟩) rfl (fun KQ hKQ => ?w1h1_26) (AllReadyH.cons (o := ⟨some 8, _, _, _, _, _⟩) rfl (fun KQ hKQ => ?w5h1_26) AllReadyH.nil)
      case w1h1_26 =>
        go_simp
        go_at_call 6
        with_reducible refine (Plain_any _ r (Hs1.out g1 _ K.out)).mono ?_
        rintro e wA ⟨sl, rfl, hS⟩
        rw [EP.out] at hS ⊢
        have hk := LV.kept hS
        have KszA := Lib.hid hk.size
        have P := Lib.hid (P.out.kept hk (by simp))
        have Q := Lib.hid (Q.out.kept hk (by simp))
        have K := Lib.hid (K.out.trans hk (by simp))
        have Z1 := Lib.hid (Z1.out.kept hk (by simp))
        obtain ⟨AA, mA, cA, rfl⟩ := BkV.form hS
        obtain ⟨GA, ha, hl⟩ := BkV.own hS
        have SA := Lib.hid ha
        have LSA := Lib.hid hl
        clear hS ha hl hk
        go_wp2_with fail
        refine hKQ.out _ _ (fun o => P.out.cell o) (fun hHeld9 => ?_)
        clear hKQ KQ hHeld
        have hHeld := hHeld9
        clear hHeld9
        try simp only [Act.put, List.setIfInBounds_toArray, List.set_cons_zero, List.set_cons_succ]
        refine wpAnyH_ready (rs := [3, 5]) (by kernel_rfl) (by simp) ?_
        refine AllReadyH.cons (o := ⟨some 21, _, _, _, _, _⟩) rfl (fun KQ hKQ => ?w3h1_27) (AllReadyH.cons (o := ⟨some 8, _, _, _, _, _⟩) rfl (fun KQ hKQ => ?w5h1_27) AllReadyH.nil)
        case w3h1_27 =>
          go_simp
          go_at_call 7
          with_reducible refine (rPlain_any _ r (Hs1.out g1 _ K.out)).mono ?_
          rintro e wB ⟨sl, rfl, hS⟩
          rw [EP.out] at hS ⊢
          have hk := LV.kept hS
          have KszB := Lib.hid hk.size
          have P := Lib.hid (P.out.kept hk (by simp))
          have Q := Lib.hid (Q.out.kept hk (by simp))
          have K := Lib.hid (K.out.trans hk (by simp))
          have Z1 := Lib.hid (Z1.out.kept hk (by simp))
          have SA := Lib.hid (BkArr.kept SA.out hk (by simp))
          obtain ⟨AB, mB, cB, rfl⟩ := BkV.form hS
          obtain ⟨GB, ha, hl⟩ := BkV.own hS
          have SB := Lib.hid ha
          have LSB := Lib.hid hl
          clear hS ha hl hk
          go_wp2_with fail
          refine hKQ.out _ _ (fun o => P.out.cell o) (fun hHeld9 => ?_)
          clear hKQ KQ hHeld
          have hHeld := hHeld9
          clear hHeld9
          try simp only [Act.put, List.setIfInBounds_toArray, List.set_cons_zero, List.set_cons_succ]
          refine wpAnyH_ready (rs := [5]) (by kernel_rfl) (by simp) ?_
          refine AllReadyH.cons (o := ⟨some 8, _, _, _, _, _⟩) rfl (fun KQ hKQ => ?w5h1_28) AllReadyH.nil
          case w5h1_28 =>
            go_simp
            refine hKQ.out _ _ (fun o => (P.out.alloc _).cell o) (fun hHeld9 => ?_)
            clear hKQ KQ hHeld
            have hHeld := hHeld9
            clear hHeld9
            try simp only [Act.put, List.setIfInBounds_toArray, List.set_cons_zero, List.set_cons_succ]
            have hk : Kept [] wB (wB.alloc (.cells #[.int .i64 0, .int .u32 0, .int .u32 0, .int .i64 0, .int .i64 0, .int .i64 0, .int .i64 0, .int .i64 0, .int .i64 0, .int .i64 0, .slice none 0 0, .int .i64 0, .int .i64 0, .int .i64 0] 29)) := (Kept.refl [] _).alloc _
            have P := Lib.hid (P.out.kept hk (by simp))
            have Q := Lib.hid (Q.out.kept hk (by simp))
            have K := Lib.hid (K.out.trans hk (by simp))
            have Z1 := Lib.hid (Z1.out.kept hk (by simp))
            have SA := Lib.hid (BkArr.kept SA.out hk (by simp))
            have SB := Lib.hid (BkArr.kept SB.out hk (by simp))
            have hz := show Blk (wB.alloc (.cells #[.int .i64 0, .int .u32 0, .int .u32 0, .int .i64 0, .int .i64 0, .int .i64 0, .int .i64 0, .int .i64 0, .int .i64 0, .int .i64 0, .slice none 0 0, .int .i64 0, .int .i64 0, .int .i64 0] 29)) wB.heap.size 29 #[.int .i64 0, .int .u32 0, .int .u32 0, .int .i64 0, .int .i64 0, .int .i64 0, .int .i64 0, .int .i64 0, .int .i64 0, .int .i64 0, .slice none 0 0, .int .i64 0, .int .i64 0, .int .i64 0] from by (repeat (first | (apply Blk.new'; simp; done) | apply Blk.alloc | apply Blk.drew))
            have he := show (wB.alloc (.cells #[.int .i64 0, .int .u32 0, .int .u32 0, .int .i64 0, .int .i64 0, .int .i64 0, .int .i64 0, .int .i64 0, .int .i64 0, .int .i64 0, .slice none 0 0, .int .i64 0, .int .i64 0, .int .i64 0] 29)).heap.size = wB.heap.size + 1 by simp
            obtain ⟨q2, hq⟩ : ∃ g, wB.heap.size = g := ⟨_, rfl⟩
            rw [hq] at he hz
            try simp only [hq]
            have HQ2 := Lib.hid hq
            have E2 := Lib.hid he
            have Z2 := Lib.hid hz
            clear hk he hz hq
            generalize (wB.alloc (.cells #[.int .i64 0, .int .u32 0, .int .u32 0, .int .i64 0, .int .i64 0, .int .i64 0, .int .i64 0, .int .i64 0, .int .i64 0, .int .i64 0, .slice none 0 0, .int .i64 0, .int .i64 0, .int .i64 0] 29)) = w5 at *
            have AR := Lib.hid (show w.heap.size + 1 < q1 ∧ w.heap.size + 1 < q2 ∧ q1 ≠ q2 from by have a0 := SZ0.out; have a1 := HQ1.out; have a2 := E1.out; have a3 := KszA.out; have a4 := KszB.out; have a5 := HQ2.out; have a6 := E2.out; omega)
            have NSA := Lib.hid (show ∀ i ∈ GA, i ≠ q1 ∧ i ≠ q2 from fun i hi => by have b := LSA.out i hi; have a0 := SZ0.out; have a1 := HQ1.out; have a2 := E1.out; have a3 := KszA.out; have a4 := KszB.out; have a5 := HQ2.out; have a6 := E2.out; omega)
            have NSB := Lib.hid (show ∀ i ∈ GB, i ≠ q1 ∧ i ≠ q2 from fun i hi => by have b := LSB.out i hi; have a0 := SZ0.out; have a1 := HQ1.out; have a2 := E1.out; have a3 := KszA.out; have a4 := KszB.out; have a5 := HQ2.out; have a6 := E2.out; omega)
            refine wpAnyH_ready (rs := [6]) (by kernel_rfl) (by simp) ?_
            refine AllReadyH.cons (o := ⟨none, _, _, _, _, _⟩) rfl (fun KQ hKQ => ?w6h1_29) AllReadyH.nil
            case w6h1_29 =>
              refine step_put (t := 29) rfl 29 (.tmp 7) (.tmp 19) rfl _ (by first | (simp [Act.eval]; done) | (simp [Act.eval]; rfl) | rfl) (by first | (simp [Act.eval]; done) | (simp [Act.eval]; rfl) | rfl) Z1.out (by rfl) (by kernel_rfl) (by simp [Value.oneCell']) ?_
              intro w6 hb hk
              have P := Lib.hid (P.out.kept hk (by have h3 := AR.out; simp; omega))
              have Q := Lib.hid (Q.out.kept hk (by have h3 := AR.out; simp; omega))
              have K := Lib.hid (K.out.trans hk (fun i hi => .inr (by have h3 := AR.out; simp at hi; omega)))
              have SA := Lib.hid (BkArr.kept SA.out hk (fun i hi => by have h1 := NSA.out i hi; simp; omega))
              have SB := Lib.hid (BkArr.kept SB.out hk (fun i hi => by have h1 := NSB.out i hi; simp; omega))
              have Z2 := Lib.hid (Z2.out.kept hk (by have h3 := AR.out; simp; omega))
              have D1 := Lib.hid hb
              clear hb hk
              refine hKQ.out _ _ (fun o => P.out.cell o) (fun hHeld9 => ?_)
              clear hKQ KQ hHeld
              have hHeld := hHeld9
              clear hHeld9
              try simp only [Act.put]
              refine wpAnyH_ready (rs := [7]) (by kernel_rfl) (by simp) ?_
              refine AllReadyH.cons (o := ⟨none, _, _, _, _, _⟩) rfl (fun KQ hKQ => ?w7h1_30) AllReadyH.nil
              case w7h1_30 =>
                refine step_put (t := 29) rfl 29 (.tmp 8) (.tmp 21) rfl _ (by first | (simp [Act.eval]; done) | (simp [Act.eval]; rfl) | rfl) (by first | (simp [Act.eval]; done) | (simp [Act.eval]; rfl) | rfl) Z2.out (by rfl) (by kernel_rfl) (by simp [Value.oneCell']) ?_
                intro w7 hb hk
                have P := Lib.hid (P.out.kept hk (by have h3 := AR.out; simp; omega))
                have Q := Lib.hid (Q.out.kept hk (by have h3 := AR.out; simp; omega))
                have K := Lib.hid (K.out.trans hk (fun i hi => .inr (by have h3 := AR.out; simp at hi; omega)))
                have SA := Lib.hid (BkArr.kept SA.out hk (fun i hi => by have h1 := NSA.out i hi; simp; omega))
                have SB := Lib.hid (BkArr.kept SB.out hk (fun i hi => by have h1 := NSB.out i hi; simp; omega))
                have D1 := Lib.hid (D1.out.kept hk (by have h3 := AR.out; simp; omega))
                have D2 := Lib.hid hb
                clear hb hk
                refine hKQ.out _ _ (fun o => P.out.cell o) (fun hHeld9 => ?_)
                clear hKQ KQ hHeld
                have hHeld := hHeld9
                clear hHeld9
                try simp only [Act.put]
                refine wpAnyH_done (by kernel_rfl) ?_ _
                clear hHeld
                go_wp2_with fail
                go_meet
                exact ⟨⟨q1, q2, _, _, _, _, _, _, GA, GB, rfl, rfl, D1.out, D2.out, SA.out, SB.out, K.out⟩, P.out, Q.out⟩
        case w5h1_27 =>
          go_simp
          refine hKQ.out _ _ (fun o => (P.out.alloc _).cell o) (fun hHeld9 => ?_)
          clear hKQ KQ hHeld
          have hHeld := hHeld9
          clear hHeld9
          try simp only [Act.put, List.setIfInBounds_toArray, List.set_cons_zero, List.set_cons_succ]
          have hk : Kept [] wA (wA.alloc (.cells #[.int .i64 0, .int .u32 0, .int .u32 0, .int .i64 0, .int .i64 0, .int .i64 0, .int .i64 0, .int .i64 0, .int .i64 0, .int .i64 0, .slice none 0 0, .int .i64 0, .int .i64 0, .int .i64 0] 29)) := (Kept.refl [] _).alloc _
          have P := Lib.hid (P.out.kept hk (by simp))
          have Q := Lib.hid (Q.out.kept hk (by simp))
          have K := Lib.hid (K.out.trans hk (by simp))
          have Z1 := Lib.hid (Z1.out.kept hk (by simp))
          have SA := Lib.hid (BkArr.kept SA.out hk (by simp))
          have hz := show Blk (wA.alloc (.cells #[.int .i64 0, .int .u32 0, .int .u32 0, .int .i64 0, .int .i64 0, .int .i64 0, .int .i64 0, .int .i64 0, .int .i64 0, .int .i64 0, .slice none 0 0, .int .i64 0, .int .i64 0, .int .i64 0] 29)) wA.heap.size 29 #[.int .i64 0, .int .u32 0, .int .u32 0, .int .i64 0, .int .i64 0, .int .i64 0, .int .i64 0, .int .i64 0, .int .i64 0, .int .i64 0, .slice none 0 0, .int .i64 0, .int .i64 0, .int .i64 0] from by (repeat (first | (apply Blk.new'; simp; done) | apply Blk.alloc | apply Blk.drew))
          have he := show (wA.alloc (.cells #[.int .i64 0, .int .u32 0, .int .u32 0, .int .i64 0, .int .i64 0, .int .i64 0, .int .i64 0, .int .i64 0, .int .i64 0, .int .i64 0, .slice none 0 0, .int .i64 0, .int .i64 0, .int .i64 0] 29)).heap.size = wA.heap.size + 1 by simp
          obtain ⟨q2, hq⟩ : ∃ g, wA.heap.size = g := ⟨_, rfl⟩
          rw [hq] at he hz
          try simp only [hq]
          have HQ2 := Lib.hid hq
          have E2 := Lib.hid he
          have Z2 := Lib.hid hz
          clear hk he hz hq
          generalize (wA.alloc (.cells #[.int .i64 0, .int .u32 0, .int .u32 0, .int .i64 0, .int .i64 0, .int .i64 0, .int .i64 0, .int .i64 0, .int .i64 0, .int .i64 0, .slice none 0 0, .int .i64 0, .int .i64 0, .int .i64 0] 29)) = w5 at *
          refine wpAnyH_ready (rs := [3]) (by kernel_rfl) (by simp) ?_
          refine AllReadyH.cons (o := ⟨some 21, _, _, _, _, _⟩) rfl (fun KQ hKQ => ?w3h1_31) AllReadyH.nil
          case w3h1_31 =>
            go_simp
            go_at_call 7
            with_reducible refine (rPlain_any _ r (Hs1.out g1 _ K.out)).mono ?_
            rintro e wB ⟨sl, rfl, hS⟩
            rw [EP.out] at hS ⊢
            have hk := LV.kept hS
            have KszB := Lib.hid hk.size
            have P := Lib.hid (P.out.kept hk (by simp))
            have Q := Lib.hid (Q.out.kept hk (by simp))
            have K := Lib.hid (K.out.trans hk (by simp))
            have Z1 := Lib.hid (Z1.out.kept hk (by simp))
            have SA := Lib.hid (BkArr.kept SA.out hk (by simp))
            have Z2 := Lib.hid (Z2.out.kept hk (by simp))
            obtain ⟨AB, mB, cB, rfl⟩ := BkV.form hS
            obtain ⟨GB, ha, hl⟩ := BkV.own hS
            have SB := Lib.hid ha
            have LSB := Lib.hid hl
            clear hS ha hl hk
            go_wp2_with fail
            refine hKQ.out _ _ (fun o => P.out.cell o) (fun hHeld9 => ?_)
            clear hKQ KQ hHeld
            have hHeld := hHeld9
            clear hHeld9
            try simp only [Act.put, List.setIfInBounds_toArray, List.set_cons_zero, List.set_cons_succ]
            have AR := Lib.hid (show w.heap.size + 1 < q1 ∧ w.heap.size + 1 < q2 ∧ q1 ≠ q2 from by have a0 := SZ0.out; have a1 := HQ1.out; have a2 := E1.out; have a3 := KszA.out; have a4 := HQ2.out; have a5 := E2.out; have a6 := KszB.out; omega)
            have NSA := Lib.hid (show ∀ i ∈ GA, i ≠ q1 ∧ i ≠ q2 from fun i hi => by have b := LSA.out i hi; have a0 := SZ0.out; have a1 := HQ1.out; have a2 := E1.out; have a3 := KszA.out; have a4 := HQ2.out; have a5 := E2.out; have a6 := KszB.out; omega)
            have NSB := Lib.hid (show ∀ i ∈ GB, i ≠ q1 ∧ i ≠ q2 from fun i hi => by have b := LSB.out i hi; have a0 := SZ0.out; have a1 := HQ1.out; have a2 := E1.out; have a3 := KszA.out; have a4 := HQ2.out; have a5 := E2.out; have a6 := KszB.out; omega)
            refine wpAnyH_ready (rs := [6]) (by kernel_rfl) (by simp) ?_
            refine AllReadyH.cons (o := ⟨none, _, _, _, _, _⟩) rfl (fun KQ hKQ => ?w6h1_32) AllReadyH.nil
            case w6h1_32 =>
              refine step_put (t := 29) rfl 29 (.tmp 7) (.tmp 19) rfl _ (by first | (simp [Act.eval]; done) | (simp [Act.eval]; rfl) | rfl) (by first | (simp [Act.eval]; done) | (simp [Act.eval]; rfl) | rfl) Z1.out (by rfl) (by kernel_rfl) (by simp [Value.oneCell']) ?_
              intro w6 hb hk
              have P := Lib.hid (P.out.kept hk (by have h3 := AR.out; simp; omega))
              have Q := Lib.hid (Q.out.kept hk (by have h3 := AR.out; simp; omega))
              have K := Lib.hid (K.out.trans hk (fun i hi => .inr (by have h3 := AR.out; simp at hi; omega)))
              have SA := Lib.hid (BkArr.kept SA.out hk (fun i hi => by have h1 := NSA.out i hi; simp; omega))
              have Z2 := Lib.hid (Z2.out.kept hk (by have h3 := AR.out; simp; omega))
              have SB := Lib.hid (BkArr.kept SB.out hk (fun i hi => by have h1 := NSB.out i hi; simp; omega))
              have D1 := Lib.hid hb
              clear hb hk
              refine hKQ.out _ _ (fun o => P.out.cell o) (fun hHeld9 => ?_)
              clear hKQ KQ hHeld
              have hHeld := hHeld9
              clear hHeld9
              try simp only [Act.put]
              refine wpAnyH_ready (rs := [7]) (by kernel_rfl) (by simp) ?_
              refine AllReadyH.cons (o := ⟨none, _, _, _, _, _⟩) rfl (fun KQ hKQ => ?w7h1_33) AllReadyH.nil
              case w7h1_33 =>
                refine step_put (t := 29) rfl 29 (.tmp 8) (.tmp 21) rfl _ (by first | (simp [Act.eval]; done) | (simp [Act.eval]; rfl) | rfl) (by first | (simp [Act.eval]; done) | (simp [Act.eval]; rfl) | rfl) Z2.out (by rfl) (by kernel_rfl) (by simp [Value.oneCell']) ?_
                intro w7 hb hk
                have P := Lib.hid (P.out.kept hk (by have h3 := AR.out; simp; omega))
                have Q := Lib.hid (Q.out.kept hk (by have h3 := AR.out; simp; omega))
                have K := Lib.hid (K.out.trans hk (fun i hi => .inr (by have h3 := AR.out; simp at hi; omega)))
                have SA := Lib.hid (BkArr.kept SA.out hk (fun i hi => by have h1 := NSA.out i hi; simp; omega))
                have SB := Lib.hid (BkArr.kept SB.out hk (fun i hi => by have h1 := NSB.out i hi; simp; omega))
                have D1 := Lib.hid (D1.out.kept hk (by have h3 := AR.out; simp; omega))
                have D2 := Lib.hid hb
                clear hb hk
                refine hKQ.out _ _ (fun o => P.out.cell o) (fun hHeld9 => ?_)
                clear hKQ KQ hHeld
                have hHeld := hHeld9
                clear hHeld9
                try simp only [Act.put]
                refine wpAnyH_done (by kernel_rfl) ?_ _
                clear hHeld
                go_wp2_with fail
                go_meet
                exact ⟨⟨q1, q2, _, _, _, _, _, _, GA, GB, rfl, rfl, D1.out, D2.out, SA.out, SB.out, K.out⟩, P.out, Q.out⟩
      case w5h1_26 =>
        go_simp
        refine hKQ.out _ _ (fun o => (P.out.alloc _).cell o) (fun hHeld9 => ?_)
        clear hKQ KQ hHeld
        have hHeld := hHeld9
        clear hHeld9
        try simp only [Act.put, List.setIfInBounds_toArray, List.set_cons_zero, List.set_cons_succ]
        have hk : Kept [] w4 (w4.alloc (.cells #[.int .i64 0, .int .u32 0, .int .u32 0, .int .i64 0, .int .i64 0, .int .i64 0, .int .i64 0, .int .i64 0, .int .i64 0, .int .i64 0, .slice none 0 0, .int .i64 0, .int .i64 0, .int .i64 0] 29)) := (Kept.refl [] _).alloc _
        have P := Lib.hid (P.out.kept hk (by simp))
        have Q := Lib.hid (Q.out.kept hk (by simp))
        have K := Lib.hid (K.out.trans hk (by simp))
        have Z1 := Lib.hid (Z1.out.kept hk (by simp))
        have hz := show Blk (w4.alloc (.cells #[.int .i64 0, .int .u32 0, .int .u32 0, .int .i64 0, .int .i64 0, .int .i64 0, .int .i64 0, .int .i64 0, .int .i64 0, .int .i64 0, .slice none 0 0, .int .i64 0, .int .i64 0, .int .i64 0] 29)) w4.heap.size 29 #[.int .i64 0, .int .u32 0, .int .u32 0, .int .i64 0, .int .i64 0, .int .i64 0, .int .i64 0, .int .i64 0, .int .i64 0, .int .i64 0, .slice none 0 0, .int .i64 0, .int .i64 0, .int .i64 0] from by (repeat (first | (apply Blk.new'; simp; done) | apply Blk.alloc | apply Blk.drew))
        have he := show (w4.alloc (.cells #[.int .i64 0, .int .u32 0, .int .u32 0, .int .i64 0, .int .i64 0, .int .i64 0, .int .i64 0, .int .i64 0, .int .i64 0, .int .i64 0, .slice none 0 0, .int .i64 0, .int .i64 0, .int .i64 0] 29)).heap.size = w4.heap.size + 1 by simp
        obtain ⟨q2, hq⟩ : ∃ g, w4.heap.size = g := ⟨_, rfl⟩
        rw [hq] at he hz
        try simp only [hq]
        have HQ2 := Lib.hid hq
        have E2 := Lib.hid he
        have Z2 := Lib.hid hz
        clear hk he hz hq
        generalize (w4.alloc (.cells #[.int .i64 0, .int .u32 0, .int .u32 0, .int .i64 0, .int .i64 0, .int .i64 0, .int .i64 0, .int .i64 0, .int .i64 0, .int .i64 0, .slice none 0 0, .int .i64 0, .int .i64 0, .int .i64 0] 29)) = w5 at *
        refine wpAnyH_ready (rs := [1]) (by kernel_rfl) (by simp) ?_
        refine AllReadyH.cons (o := ⟨some 19, _, _, _, _, _⟩) rfl (fun KQ hKQ => ?w1h1_34) AllReadyH.nil
        case w1h1_34 =>
          go_simp
          go_at_call 6
          with_reducible refine (Plain_any _ r (Hs1.out g1 _ K.out)).mono ?_
          rintro e wA ⟨sl, rfl, hS⟩
          rw [EP.out] at hS ⊢
          have hk := LV.kept hS
          have KszA := Lib.hid hk.size
          have P := Lib.hid (P.out.kept hk (by simp))
          have Q := Lib.hid (Q.out.kept hk (by simp))
          have K := Lib.hid (K.out.trans hk (by simp))
          have Z1 := Lib.hid (Z1.out.kept hk (by simp))
          have Z2 := Lib.hid (Z2.out.kept hk (by simp))
          obtain ⟨AA, mA, cA, rfl⟩ := BkV.form hS
          obtain ⟨GA, ha, hl⟩ := BkV.own hS
          have SA := Lib.hid ha
          have LSA := Lib.hid hl
          clear hS ha hl hk
          go_wp2_with fail
          refine hKQ.out _ _ (fun o => P.out.cell o) (fun hHeld9 => ?_)
          clear hKQ KQ hHeld
          have hHeld := hHeld9
          clear hHeld9
          try simp only [Act.put, List.setIfInBounds_toArray, List.set_cons_zero, List.set_cons_succ]
          refine wpAnyH_ready (rs := [3]) (by kernel_rfl) (by simp) ?_
          refine AllReadyH.cons (o := ⟨some 21, _, _, _, _, _⟩) rfl (fun KQ hKQ => ?w3h1_35) AllReadyH.nil
          case w3h1_35 =>
            go_simp
            go_at_call 7
            with_reducible refine (rPlain_any _ r (Hs1.out g1 _ K.out)).mono ?_
            rintro e wB ⟨sl, rfl, hS⟩
            rw [EP.out] at hS ⊢
            have hk := LV.kept hS
            have KszB := Lib.hid hk.size
            have P := Lib.hid (P.out.kept hk (by simp))
            have Q := Lib.hid (Q.out.kept hk (by simp))
            have K := Lib.hid (K.out.trans hk (by simp))
            have Z1 := Lib.hid (Z1.out.kept hk (by simp))
            have Z2 := Lib.hid (Z2.out.kept hk (by simp))
            have SA := Lib.hid (BkArr.kept SA.out hk (by simp))
            obtain ⟨AB, mB, cB, rfl⟩ := BkV.form hS
            obtain ⟨GB, ha, hl⟩ := BkV.own hS
            have SB := Lib.hid ha
            have LSB := Lib.hid hl
            clear hS ha hl hk
            go_wp2_with fail
            refine hKQ.out _ _ (fun o => P.out.cell o) (fun hHeld9 => ?_)
            clear hKQ KQ hHeld
            have hHeld := hHeld9
            clear hHeld9
            try simp only [Act.put, List.setIfInBounds_toArray, List.set_cons_zero, List.set_cons_succ]
            have AR := Lib.hid (show w.heap.size + 1 < q1 ∧ w.heap.size + 1 < q2 ∧ q1 ≠ q2 from by have a0 := SZ0.out; have a1 := HQ1.out; have a2 := E1.out; have a3 := HQ2.out; have a4 := E2.out; have a5 := KszA.out; have a6 := KszB.out; omega)
            have NSA := Lib.hid (show ∀ i ∈ GA, i ≠ q1 ∧ i ≠ q2 from fun i hi => by have b := LSA.out i hi; have a0 := SZ0.out; have a1 := HQ1.out; have a2 := E1.out; have a3 := HQ2.out; have a4 := E2.out; have a5 := KszA.out; have a6 := KszB.out; omega)
            have NSB := Lib.hid (show ∀ i ∈ GB, i ≠ q1 ∧ i ≠ q2 from fun i hi => by have b := LSB.out i hi; have a0 := SZ0.out; have a1 := HQ1.out; have a2 := E1.out; have a3 := HQ2.out; have a4 := E2.out; have a5 := KszA.out; have a6 := KszB.out; omega)
            refine wpAnyH_ready (rs := [6]) (by kernel_rfl) (by simp) ?_
            refine AllReadyH.cons (o := ⟨none, _, _, _, _, _⟩) rfl (fun KQ hKQ => ?w6h1_36) AllReadyH.nil
            case w6h1_36 =>
              refine step_put (t := 29) rfl 29 (.tmp 7) (.tmp 19) rfl _ (by first | (simp [Act.eval]; done) | (simp [Act.eval]; rfl) | rfl) (by first | (simp [Act.eval]; done) | (simp [Act.eval]; rfl) | rfl) Z1.out (by rfl) (by kernel_rfl) (by simp [Value.oneCell']) ?_
              intro w6 hb hk
              have P := Lib.hid (P.out.kept hk (by have h3 := AR.out; simp; omega))
              have Q := Lib.hid (Q.out.kept hk (by have h3 := AR.out; simp; omega))
              have K := Lib.hid (K.out.trans hk (fun i hi => .inr (by have h3 := AR.out; simp at hi; omega)))
              have Z2 := Lib.hid (Z2.out.kept hk (by have h3 := AR.out; simp; omega))
              have SA := Lib.hid (BkArr.kept SA.out hk (fun i hi => by have h1 := NSA.out i hi; simp; omega))
              have SB := Lib.hid (BkArr.kept SB.out hk (fun i hi => by have h1 := NSB.out i hi; simp; omega))
              have D1 := Lib.hid hb
              clear hb hk
              refine hKQ.out _ _ (fun o => P.out.cell o) (fun hHeld9 => ?_)
              clear hKQ KQ hHeld
              have hHeld := hHeld9
              clear hHeld9
              try simp only [Act.put]
              refine wpAnyH_ready (rs := [7]) (by kernel_rfl) (by simp) ?_
              refine AllReadyH.cons (o := ⟨none, _, _, _, _, _⟩) rfl (fun KQ hKQ => ?w7h1_37) AllReadyH.nil
              case w7h1_37 =>
                refine step_put (t := 29) rfl 29 (.tmp 8) (.tmp 21) rfl _ (by first | (simp [Act.eval]; done) | (simp [Act.eval]; rfl) | rfl) (by first | (simp [Act.eval]; done) | (simp [Act.eval]; rfl) | rfl) Z2.out (by rfl) (by kernel_rfl) (by simp [Value.oneCell']) ?_
                intro w7 hb hk
                have P := Lib.hid (P.out.kept hk (by have h3 := AR.out; simp; omega))
                have Q := Lib.hid (Q.out.kept hk (by have h3 := AR.out; simp; omega))
                have K := Lib.hid (K.out.trans hk (fun i hi => .inr (by have h3 := AR.out; simp at hi; omega)))
                have SA := Lib.hid (BkArr.kept SA.out hk (fun i hi => by have h1 := NSA.out i hi; simp; omega))
                have SB := Lib.hid (BkArr.kept SB.out hk (fun i hi => by have h1 := NSB.out i hi; simp; omega))
                have D1 := Lib.hid (D1.out.kept hk (by have h3 := AR.out; simp; omega))
                have D2 := Lib.hid hb
                clear hb hk
                refine hKQ.out _ _ (fun o => P.out.cell o) (fun hHeld9 => ?_)
                clear hKQ KQ hHeld
                have hHeld := hHeld9
                clear hHeld9
                try simp only [Act.put]
                refine wpAnyH_done (by kernel_rfl) ?_ _
                clear hHeld
                go_wp2_with fail
                go_meet
                exact ⟨⟨q1, q2, _, _, _, _, _, _, GA, GB, rfl, rfl, D1.out, D2.out, SA.out, SB.out, K.out⟩, P.out, Q.out⟩
    case w5h1_3 =>
      go_simp
      refine hKQ.out _ _ (fun o => (P.out.alloc _).cell o) (fun hHeld9 => ?_)
      clear hKQ KQ hHeld
      have hHeld := hHeld9
      clear hHeld9
      try simp only [Act.put, List.setIfInBounds_toArray, List.set_cons_zero, List.set_cons_succ]
      have hk : Kept [] w3 (w3.alloc (.cells #[.int .i64 0, .int .u32 0, .int .u32 0, .int .i64 0, .int .i64 0, .int .i64 0, .int .i64 0, .int .i64 0, .int .i64 0, .int .i64 0, .slice none 0 0, .int .i64 0, .int .i64 0, .int .i64 0] 29)) := (Kept.refl [] _).alloc _
      have P := Lib.hid (P.out.kept hk (by simp))
      have Q := Lib.hid (Q.out.kept hk (by simp))
      have K := Lib.hid (K.out.trans hk (by simp))
      have hz := show Blk (w3.alloc (.cells #[.int .i64 0, .int .u32 0, .int .u32 0, .int .i64 0, .int .i64 0, .int .i64 0, .int .i64 0, .int .i64 0, .int .i64 0, .int .i64 0, .slice none 0 0, .int .i64 0, .int .i64 0, .int .i64 0] 29)) w3.heap.size 29 #[.int .i64 0, .int .u32 0, .int .u32 0, .int .i64 0, .int .i64 0, .int .i64 0, .int .i64 0, .int .i64 0, .int .i64 0, .int .i64 0, .slice none 0 0, .int .i64 0, .int .i64 0, .int .i64 0] from by (repeat (first | (apply Blk.new'; simp; done) | apply Blk.alloc | apply Blk.drew))
      have he := show (w3.alloc (.cells #[.int .i64 0, .int .u32 0, .int .u32 0, .int .i64 0, .int .i64 0, .int .i64 0, .int .i64 0, .int .i64 0, .int .i64 0, .int .i64 0, .slice none 0 0, .int .i64 0, .int .i64 0, .int .i64 0] 29)).heap.size = w3.heap.size + 1 by simp
      obtain ⟨q2, hq⟩ : ∃ g, w3.heap.size = g := ⟨_, rfl⟩
      rw [hq] at he hz
      try simp only [hq]
      have HQ2 := Lib.hid hq
      have E2 := Lib.hid he
      have Z2 := Lib.hid hz
      clear hk he hz hq
      generalize (w3.alloc (.cells #[.int .i64 0, .int .u32 0, .int .u32 0, .int .i64 0, .int .i64 0, .int .i64 0, .int .i64 0, .int .i64 0, .int .i64 0, .int .i64 0, .slice none 0 0, .int .i64 0, .int .i64 0, .int .i64 0] 29)) = w5 at *
      refine wpAnyH_ready (rs := [1, 4]) (by kernel_rfl) (by simp) ?_
      refine AllReadyH.cons (o := ⟨some 19, _, _, _, _, _⟩) rfl (fun KQ hKQ => ?w1h1_38) (AllReadyH.cons (o := ⟨some 7, _, _, _, _, _⟩) rfl (fun KQ hKQ => ?w4h1_38) AllReadyH.nil)
      case w1h1_38 =>
        go_simp
        go_at_call 6
        with_reducible refine (Plain_any _ r (Hs1.out g1 _ K.out)).mono ?_
        rintro e wA ⟨sl, rfl, hS⟩
        rw [EP.out] at hS ⊢
        have hk := LV.kept hS
        have KszA := Lib.hid hk.size
        have P := Lib.hid (P.out.kept hk (by simp))
        have Q := Lib.hid (Q.out.kept hk (by simp))
        have K := Lib.hid (K.out.trans hk (by simp))
        have Z2 := Lib.hid (Z2.out.kept hk (by simp))
        obtain ⟨AA, mA, cA, rfl⟩ := BkV.form hS
        obtain ⟨GA, ha, hl⟩ := BkV.own hS
        have SA := Lib.hid ha
        have LSA := Lib.hid hl
        clear hS ha hl hk
        go_wp2_with fail
        refine hKQ.out _ _ (fun o => P.out.cell o) (fun hHeld9 => ?_)
        clear hKQ KQ hHeld
        have hHeld := hHeld9
        clear hHeld9
        try simp only [Act.put, List.setIfInBounds_toArray, List.set_cons_zero, List.set_cons_succ]
        refine wpAnyH_ready (rs := [3, 4]) (by kernel_rfl) (by simp) ?_
        refine AllReadyH.cons (o := ⟨some 21, _, _, _, _, _⟩) rfl (fun KQ hKQ => ?w3h1_39) (AllReadyH.cons (o := ⟨some 7, _, _, _, _, _⟩) rfl (fun KQ hKQ => ?w4h1_39) AllReadyH.nil)
        case w3h1_39 =>
          go_simp
          go_at_call 7
          with_reducible refine (rPlain_any _ r (Hs1.out g1 _ K.out)).mono ?_
          rintro e wB ⟨sl, rfl, hS⟩
          rw [EP.out] at hS ⊢
          have hk := LV.kept hS
          have KszB := Lib.hid hk.size
          have P := Lib.hid (P.out.kept hk (by simp))
          have Q := Lib.hid (Q.out.kept hk (by simp))
          have K := Lib.hid (K.out.trans hk (by simp))
          have Z2 := Lib.hid (Z2.out.kept hk (by simp))
          have SA := Lib.hid (BkArr.kept SA.out hk (by simp))
          obtain ⟨AB, mB, cB, rfl⟩ := BkV.form hS
          obtain ⟨GB, ha, hl⟩ := BkV.own hS
          have SB := Lib.hid ha
          have LSB := Lib.hid hl
          clear hS ha hl hk
          go_wp2_with fail
          refine hKQ.out _ _ (fun o => P.out.cell o) (fun hHeld9 => ?_)
          clear hKQ KQ hHeld
          have hHeld := hHeld9
          clear hHeld9
          try simp only [Act.put, List.setIfInBounds_toArray, List.set_cons_zero, List.set_cons_succ]
          refine wpAnyH_ready (rs := [4]) (by kernel_rfl) (by simp) ?_
          refine AllReadyH.cons (o := ⟨some 7, _, _, _, _, _⟩) rfl (fun KQ hKQ => ?w4h1_40) AllReadyH.nil
          case w4h1_40 =>
            go_simp
            refine hKQ.out _ _ (fun o => (P.out.alloc _).cell o) (fun hHeld9 => ?_)
            clear hKQ KQ hHeld
            have hHeld := hHeld9
            clear hHeld9
            try simp only [Act.put, List.setIfInBounds_toArray, List.set_cons_zero, List.set_cons_succ]
            have hk : Kept [] wB (wB.alloc (.cells #[.int .i64 0, .int .u32 0, .int .u32 0, .int .i64 0, .int .i64 0, .int .i64 0, .int .i64 0, .int .i64 0, .int .i64 0, .int .i64 0, .slice none 0 0, .int .i64 0, .int .i64 0, .int .i64 0] 29)) := (Kept.refl [] _).alloc _
            have P := Lib.hid (P.out.kept hk (by simp))
            have Q := Lib.hid (Q.out.kept hk (by simp))
            have K := Lib.hid (K.out.trans hk (by simp))
            have Z2 := Lib.hid (Z2.out.kept hk (by simp))
            have SA := Lib.hid (BkArr.kept SA.out hk (by simp))
            have SB := Lib.hid (BkArr.kept SB.out hk (by simp))
            have hz := show Blk (wB.alloc (.cells #[.int .i64 0, .int .u32 0, .int .u32 0, .int .i64 0, .int .i64 0, .int .i64 0, .int .i64 0, .int .i64 0, .int .i64 0, .int .i64 0, .slice none 0 0, .int .i64 0, .int .i64 0, .int .i64 0] 29)) wB.heap.size 29 #[.int .i64 0, .int .u32 0, .int .u32 0, .int .i64 0, .int .i64 0, .int .i64 0, .int .i64 0, .int .i64 0, .int .i64 0, .int .i64 0, .slice none 0 0, .int .i64 0, .int .i64 0, .int .i64 0] from by (repeat (first | (apply Blk.new'; simp; done) | apply Blk.alloc | apply Blk.drew))
            have he := show (wB.alloc (.cells #[.int .i64 0, .int .u32 0, .int .u32 0, .int .i64 0, .int .i64 0, .int .i64 0, .int .i64 0, .int .i64 0, .int .i64 0, .int .i64 0, .slice none 0 0, .int .i64 0, .int .i64 0, .int .i64 0] 29)).heap.size = wB.heap.size + 1 by simp
            obtain ⟨q1, hq⟩ : ∃ g, wB.heap.size = g := ⟨_, rfl⟩
            rw [hq] at he hz
            try simp only [hq]
            have HQ1 := Lib.hid hq
            have E1 := Lib.hid he
            have Z1 := Lib.hid hz
            clear hk he hz hq
            generalize (wB.alloc (.cells #[.int .i64 0, .int .u32 0, .int .u32 0, .int .i64 0, .int .i64 0, .int .i64 0, .int .i64 0, .int .i64 0, .int .i64 0, .int .i64 0, .slice none 0 0, .int .i64 0, .int .i64 0, .int .i64 0] 29)) = w4 at *
            have AR := Lib.hid (show w.heap.size + 1 < q1 ∧ w.heap.size + 1 < q2 ∧ q1 ≠ q2 from by have a0 := SZ0.out; have a1 := HQ2.out; have a2 := E2.out; have a3 := KszA.out; have a4 := KszB.out; have a5 := HQ1.out; have a6 := E1.out; omega)
            have NSA := Lib.hid (show ∀ i ∈ GA, i ≠ q1 ∧ i ≠ q2 from fun i hi => by have b := LSA.out i hi; have a0 := SZ0.out; have a1 := HQ2.out; have a2 := E2.out; have a3 := KszA.out; have a4 := KszB.out; have a5 := HQ1.out; have a6 := E1.out; omega)
            have NSB := Lib.hid (show ∀ i ∈ GB, i ≠ q1 ∧ i ≠ q2 from fun i hi => by have b := LSB.out i hi; have a0 := SZ0.out; have a1 := HQ2.out; have a2 := E2.out; have a3 := KszA.out; have a4 := KszB.out; have a5 := HQ1.out; have a6 := E1.out; omega)
            refine wpAnyH_ready (rs := [6]) (by kernel_rfl) (by simp) ?_
            refine AllReadyH.cons (o := ⟨none, _, _, _, _, _⟩) rfl (fun KQ hKQ => ?w6h1_41) AllReadyH.nil
            case w6h1_41 =>
              refine step_put (t := 29) rfl 29 (.tmp 7) (.tmp 19) rfl _ (by first | (simp [Act.eval]; done) | (simp [Act.eval]; rfl) | rfl) (by first | (simp [Act.eval]; done) | (simp [Act.eval]; rfl) | rfl) Z1.out (by rfl) (by kernel_rfl) (by simp [Value.oneCell']) ?_
              intro w6 hb hk
              have P := Lib.hid (P.out.kept hk (by have h3 := AR.out; simp; omega))
              have Q := Lib.hid (Q.out.kept hk (by have h3 := AR.out; simp; omega))
              have K := Lib.hid (K.out.trans hk (fun i hi => .inr (by have h3 := AR.out; simp at hi; omega)))
              have Z2 := Lib.hid (Z2.out.kept hk (by have h3 := AR.out; simp; omega))
              have SA := Lib.hid (BkArr.kept SA.out hk (fun i hi => by have h1 := NSA.out i hi; simp; omega))
              have SB := Lib.hid (BkArr.kept SB.out hk (fun i hi => by have h1 := NSB.out i hi; simp; omega))
              have D1 := Lib.hid hb
              clear hb hk
              refine hKQ.out _ _ (fun o => P.out.cell o) (fun hHeld9 => ?_)
              clear hKQ KQ hHeld
              have hHeld := hHeld9
              clear hHeld9
              try simp only [Act.put]
              refine wpAnyH_ready (rs := [7]) (by kernel_rfl) (by simp) ?_
              refine AllReadyH.cons (o := ⟨none, _, _, _, _, _⟩) rfl (fun KQ hKQ => ?w7h1_42) AllReadyH.nil
              case w7h1_42 =>
                refine step_put (t := 29) rfl 29 (.tmp 8) (.tmp 21) rfl _ (by first | (simp [Act.eval]; done) | (simp [Act.eval]; rfl) | rfl) (by first | (simp [Act.eval]; done) | (simp [Act.eval]; rfl) | rfl) Z2.out (by rfl) (by kernel_rfl) (by simp [Value.oneCell']) ?_
                intro w7 hb hk
                have P := Lib.hid (P.out.kept hk (by have h3 := AR.out; simp; omega))
                have Q := Lib.hid (Q.out.kept hk (by have h3 := AR.out; simp; omega))
                have K := Lib.hid (K.out.trans hk (fun i hi => .inr (by have h3 := AR.out; simp at hi; omega)))
                have SA := Lib.hid (BkArr.kept SA.out hk (fun i hi => by have h1 := NSA.out i hi; simp; omega))
                have SB := Lib.hid (BkArr.kept SB.out hk (fun i hi => by have h1 := NSB.out i hi; simp; omega))
                have D1 := Lib.hid (D1.out.kept hk (by have h3 := AR.out; simp; omega))
                have D2 := Lib.hid hb
                clear hb hk
                refine hKQ.out _ _ (fun o => P.out.cell o) (fun hHeld9 => ?_)
                clear hKQ KQ hHeld
                have hHeld := hHeld9
                clear hHeld9
                try simp only [Act.put]
                refine wpAnyH_done (by kernel_rfl) ?_ _
                clear hHeld
                go_wp2_with fail
                go_meet
                exact ⟨⟨q1, q2, _, _, _, _, _, _, GA, GB, rfl, rfl, D1.out, D2.out, SA.out, SB.out, K.out⟩, P.out, Q.out⟩
        case w4h1_39 =>
          go_simp
          refine hKQ.out _ _ (fun o => (P.out.alloc _).cell o) (fun hHeld9 => ?_)
          clear hKQ KQ hHeld
          have hHeld := hHeld9
          clear hHeld9
          try simp only [Act.put, List.setIfInBounds_toArray, List.set_cons_zero, List.set_cons_succ]
          have hk : Kept [] wA (wA.alloc (.cells #[.int .i64 0, .int .u32 0, .int .u32 0, .int .i64 0, .int .i64 0, .int .i64 0, .int .i64 0, .int .i64 0, .int .i64 0, .int .i64 0, .slice none 0 0, .int .i64 0, .int .i64 0, .int .i64 0] 29)) := (Kept.refl [] _).alloc _
          have P := Lib.hid (P.out.kept hk (by simp))
          have Q := Lib.hid (Q.out.kept hk (by simp))
          have K := Lib.hid (K.out.trans hk (by simp))
          have Z2 := Lib.hid (Z2.out.kept hk (by simp))
          have SA := Lib.hid (BkArr.kept SA.out hk (by simp))
          have hz := show Blk (wA.alloc (.cells #[.int .i64 0, .int .u32 0, .int .u32 0, .int .i64 0, .int .i64 0, .int .i64 0, .int .i64 0, .int .i64 0, .int .i64 0, .int .i64 0, .slice none 0 0, .int .i64 0, .int .i64 0, .int .i64 0] 29)) wA.heap.size 29 #[.int .i64 0, .int .u32 0, .int .u32 0, .int .i64 0, .int .i64 0, .int .i64 0, .int .i64 0, .int .i64 0, .int .i64 0, .int .i64 0, .slice none 0 0, .int .i64 0, .int .i64 0, .int .i64 0] from by (repeat (first | (apply Blk.new'; simp; done) | apply Blk.alloc | apply Blk.drew))
          have he := show (wA.alloc (.cells #[.int .i64 0, .int .u32 0, .int .u32 0, .int .i64 0, .int .i64 0, .int .i64 0, .int .i64 0, .int .i64 0, .int .i64 0, .int .i64 0, .slice none 0 0, .int .i64 0, .int .i64 0, .int .i64 0] 29)).heap.size = wA.heap.size + 1 by simp
          obtain ⟨q1, hq⟩ : ∃ g, wA.heap.size = g := ⟨_, rfl⟩
          rw [hq] at he hz
          try simp only [hq]
          have HQ1 := Lib.hid hq
          have E1 := Lib.hid he
          have Z1 := Lib.hid hz
          clear hk he hz hq
          generalize (wA.alloc (.cells #[.int .i64 0, .int .u32 0, .int .u32 0, .int .i64 0, .int .i64 0, .int .i64 0, .int .i64 0, .int .i64 0, .int .i64 0, .int .i64 0, .slice none 0 0, .int .i64 0, .int .i64 0, .int .i64 0] 29)) = w4 at *
          refine wpAnyH_ready (rs := [3]) (by kernel_rfl) (by simp) ?_
          refine AllReadyH.cons (o := ⟨some 21, _, _, _, _, _⟩) rfl (fun KQ hKQ => ?w3h1_43) AllReadyH.nil
          case w3h1_43 =>
            go_simp
            go_at_call 7
            with_reducible refine (rPlain_any _ r (Hs1.out g1 _ K.out)).mono ?_
            rintro e wB ⟨sl, rfl, hS⟩
            rw [EP.out] at hS ⊢
            have hk := LV.kept hS
            have KszB := Lib.hid hk.size
            have P := Lib.hid (P.out.kept hk (by simp))
            have Q := Lib.hid (Q.out.kept hk (by simp))
            have K := Lib.hid (K.out.trans hk (by simp))
            have Z2 := Lib.hid (Z2.out.kept hk (by simp))
            have SA := Lib.hid (BkArr.kept SA.out hk (by simp))
            have Z1 := Lib.hid (Z1.out.kept hk (by simp))
            obtain ⟨AB, mB, cB, rfl⟩ := BkV.form hS
            obtain ⟨GB, ha, hl⟩ := BkV.own hS
            have SB := Lib.hid ha
            have LSB := Lib.hid hl
            clear hS ha hl hk
            go_wp2_with fail
            refine hKQ.out _ _ (fun o => P.out.cell o) (fun hHeld9 => ?_)
            clear hKQ KQ hHeld
            have hHeld := hHeld9
            clear hHeld9
            try simp only [Act.put, List.setIfInBounds_toArray, List.set_cons_zero, List.set_cons_succ]
            have AR := Lib.hid (show w.heap.size + 1 < q1 ∧ w.heap.size + 1 < q2 ∧ q1 ≠ q2 from by have a0 := SZ0.out; have a1 := HQ2.out; have a2 := E2.out; have a3 := KszA.out; have a4 := HQ1.out; have a5 := E1.out; have a6 := KszB.out; omega)
            have NSA := Lib.hid (show ∀ i ∈ GA, i ≠ q1 ∧ i ≠ q2 from fun i hi => by have b := LSA.out i hi; have a0 := SZ0.out; have a1 := HQ2.out; have a2 := E2.out; have a3 := KszA.out; have a4 := HQ1.out; have a5 := E1.out; have a6 := KszB.out; omega)
            have NSB := Lib.hid (show ∀ i ∈ GB, i ≠ q1 ∧ i ≠ q2 from fun i hi => by have b := LSB.out i hi; have a0 := SZ0.out; have a1 := HQ2.out; have a2 := E2.out; have a3 := KszA.out; have a4 := HQ1.out; have a5 := E1.out; have a6 := KszB.out; omega)
            refine wpAnyH_ready (rs := [6]) (by kernel_rfl) (by simp) ?_
            refine AllReadyH.cons (o := ⟨none, _, _, _, _, _⟩) rfl (fun KQ hKQ => ?w6h1_44) AllReadyH.nil
            case w6h1_44 =>
              refine step_put (t := 29) rfl 29 (.tmp 7) (.tmp 19) rfl _ (by first | (simp [Act.eval]; done) | (simp [Act.eval]; rfl) | rfl) (by first | (simp [Act.eval]; done) | (simp [Act.eval]; rfl) | rfl) Z1.out (by rfl) (by kernel_rfl) (by simp [Value.oneCell']) ?_
              intro w6 hb hk
              have P := Lib.hid (P.out.kept hk (by have h3 := AR.out; simp; omega))
              have Q := Lib.hid (Q.out.kept hk (by have h3 := AR.out; simp; omega))
              have K := Lib.hid (K.out.trans hk (fun i hi => .inr (by have h3 := AR.out; simp at hi; omega)))
              have Z2 := Lib.hid (Z2.out.kept hk (by have h3 := AR.out; simp; omega))
              have SA := Lib.hid (BkArr.kept SA.out hk (fun i hi => by have h1 := NSA.out i hi; simp; omega))
              have SB := Lib.hid (BkArr.kept SB.out hk (fun i hi => by have h1 := NSB.out i hi; simp; omega))
              have D1 := Lib.hid hb
              clear hb hk
              refine hKQ.out _ _ (fun o => P.out.cell o) (fun hHeld9 => ?_)
              clear hKQ KQ hHeld
              have hHeld := hHeld9
              clear hHeld9
              try simp only [Act.put]
              refine wpAnyH_ready (rs := [7]) (by kernel_rfl) (by simp) ?_
              refine AllReadyH.cons (o := ⟨none, _, _, _, _, _⟩) rfl (fun KQ hKQ => ?w7h1_45) AllReadyH.nil
              case w7h1_45 =>
                refine step_put (t := 29) rfl 29 (.tmp 8) (.tmp 21) rfl _ (by first | (simp [Act.eval]; done) | (simp [Act.eval]; rfl) | rfl) (by first | (simp [Act.eval]; done) | (simp [Act.eval]; rfl) | rfl) Z2.out (by rfl) (by kernel_rfl) (by simp [Value.oneCell']) ?_
                intro w7 hb hk
                have P := Lib.hid (P.out.kept hk (by have h3 := AR.out; simp; omega))
                have Q := Lib.hid (Q.out.kept hk (by have h3 := AR.out; simp; omega))
                have K := Lib.hid (K.out.trans hk (fun i hi => .inr (by have h3 := AR.out; simp at hi; omega)))
                have SA := Lib.hid (BkArr.kept SA.out hk (fun i hi => by have h1 := NSA.out i hi; simp; omega))
                have SB := Lib.hid (BkArr.kept SB.out hk (fun i hi => by have h1 := NSB.out i hi; simp; omega))
                have D1 := Lib.hid (D1.out.kept hk (by have h3 := AR.out; simp; omega))
                have D2 := Lib.hid hb
                clear hb hk
                refine hKQ.out _ _ (fun o => P.out.cell o) (fun hHeld9 => ?_)
                clear hKQ KQ hHeld
                have hHeld := hHeld9
                clear hHeld9
                try simp only [Act.put]
                refine wpAnyH_done (by kernel_rfl) ?_ _
                clear hHeld
                go_wp2_with fail
                go_meet
                exact ⟨⟨q1, q2, _, _, _, _, _, _, GA, GB, rfl, rfl, D1.out, D2.out, SA.out, SB.out, K.out⟩, P.out, Q.out⟩
      case w4h1_38 =>
        go_simp
        refine hKQ.out _ _ (fun o => (P.out.alloc _).cell o) (fun hHeld9 => ?_)
        clear hKQ KQ hHeld
        have hHeld := hHeld9
        clear hHeld9
        try simp only [Act.put, List.setIfInBounds_toArray, List.set_cons_zero, List.set_cons_succ]
        have hk : Kept [] w5 (w5.alloc (.cells #[.int .i64 0, .int .u32 0, .int .u32 0, .int .i64 0, .int .i64 0, .int .i64 0, .int .i64 0, .int .i64 0, .int .i64 0, .int .i64 0, .slice none 0 0, .int .i64 0, .int .i64 0, .int .i64 0] 29)) := (Kept.refl [] _).alloc _
        have P := Lib.hid (P.out.kept hk (by simp))
        have Q := Lib.hid (Q.out.kept hk (by simp))
        have K := Lib.hid (K.out.trans hk (by simp))
        have Z2 := Lib.hid (Z2.out.kept hk (by simp))
        have hz := show Blk (w5.alloc (.cells #[.int .i64 0, .int .u32 0, .int .u32 0, .int .i64 0, .int .i64 0, .int .i64 0, .int .i64 0, .int .i64 0, .int .i64 0, .int .i64 0, .slice none 0 0, .int .i64 0, .int .i64 0, .int .i64 0] 29)) w5.heap.size 29 #[.int .i64 0, .int .u32 0, .int .u32 0, .int .i64 0, .int .i64 0, .int .i64 0, .int .i64 0, .int .i64 0, .int .i64 0, .int .i64 0, .slice none 0 0, .int .i64 0, .int .i64 0, .int .i64 0] from by (repeat (first | (apply Blk.new'; simp; done) | apply Blk.alloc | apply Blk.drew))
        have he := show (w5.alloc (.cells #[.int .i64 0, .int .u32 0, .int .u32 0, .int .i64 0, .int .i64 0, .int .i64 0, .int .i64 0, .int .i64 0, .int .i64 0, .int .i64 0, .slice none 0 0, .int .i64 0, .int .i64 0, .int .i64 0] 29)).heap.size = w5.heap.size + 1 by simp
        obtain ⟨q1, hq⟩ : ∃ g, w5.heap.size = g := ⟨_, rfl⟩
        rw [hq] at he hz
        try simp only [hq]
        have HQ1 := Lib.hid hq
        have E1 := Lib.hid he
        have Z1 := Lib.hid hz
        clear hk he hz hq
        generalize (w5.alloc (.cells #[.int .i64 0, .int .u32 0, .int .u32 0, .int .i64 0, .int .i64 0, .int .i64 0, .int .i64 0, .int .i64 0, .int .i64 0, .int .i64 0, .slice none 0 0, .int .i64 0, .int .i64 0, .int .i64 0] 29)) = w4 at *
        refine wpAnyH_ready (rs := [1]) (by kernel_rfl) (by simp) ?_
        refine AllReadyH.cons (o := ⟨some 19, _, _, _, _, _⟩) rfl (fun KQ hKQ => ?w1h1_46) AllReadyH.nil
        case w1h1_46 =>
          go_simp
          go_at_call 6
          with_reducible refine (Plain_any _ r (Hs1.out g1 _ K.out)).mono ?_
          rintro e wA ⟨sl, rfl, hS⟩
          rw [EP.out] at hS ⊢
          have hk := LV.kept hS
          have KszA := Lib.hid hk.size
          have P := Lib.hid (P.out.kept hk (by simp))
          have Q := Lib.hid (Q.out.kept hk (by simp))
          have K := Lib.hid (K.out.trans hk (by simp))
          have Z2 := Lib.hid (Z2.out.kept hk (by simp))
          have Z1 := Lib.hid (Z1.out.kept hk (by simp))
          obtain ⟨AA, mA, cA, rfl⟩ := BkV.form hS
          obtain ⟨GA, ha, hl⟩ := BkV.own hS
          have SA := Lib.hid ha
          have LSA := Lib.hid hl
          clear hS ha hl hk
          go_wp2_with fail
          refine hKQ.out _ _ (fun o => P.out.cell o) (fun hHeld9 => ?_)
          clear hKQ KQ hHeld
          have hHeld := hHeld9
          clear hHeld9
          try simp only [Act.put, List.setIfInBounds_toArray, List.set_cons_zero, List.set_cons_succ]
          refine wpAnyH_ready (rs := [3]) (by kernel_rfl) (by simp) ?_
          refine AllReadyH.cons (o := ⟨some 21, _, _, _, _, _⟩) rfl (fun KQ hKQ => ?w3h1_47) AllReadyH.nil
          case w3h1_47 =>
            go_simp
            go_at_call 7
            with_reducible refine (rPlain_any _ r (Hs1.out g1 _ K.out)).mono ?_
            rintro e wB ⟨sl, rfl, hS⟩
            rw [EP.out] at hS ⊢
            have hk := LV.kept hS
            have KszB := Lib.hid hk.size
            have P := Lib.hid (P.out.kept hk (by simp))
            have Q := Lib.hid (Q.out.kept hk (by simp))
            have K := Lib.hid (K.out.trans hk (by simp))
            have Z2 := Lib.hid (Z2.out.kept hk (by simp))
            have Z1 := Lib.hid (Z1.out.kept hk (by simp))
            have SA := Lib.hid (BkArr.kept SA.out hk (by simp))
            obtain ⟨AB, mB, cB, rfl⟩ := BkV.form hS
            obtain ⟨GB, ha, hl⟩ := BkV.own hS
            have SB := Lib.hid ha
            have LSB := Lib.hid hl
            clear hS ha hl hk
            go_wp2_with fail
            refine hKQ.out _ _ (fun o => P.out.cell o) (fun hHeld9 => ?_)
            clear hKQ KQ hHeld
            have hHeld := hHeld9
            clear hHeld9
            try simp only [Act.put, List.setIfInBounds_toArray, List.set_cons_zero, List.set_cons_succ]
            have AR := Lib.hid (show w.heap.size + 1 < q1 ∧ w.heap.size + 1 < q2 ∧ q1 ≠ q2 from by have a0 := SZ0.out; have a1 := HQ2.out; have a2 := E2.out; have a3 := HQ1.out; have a4 := E1.out; have a5 := KszA.out; have a6 := KszB.out; omega)
            have NSA := Lib.hid (show ∀ i ∈ GA, i ≠ q1 ∧ i ≠ q2 from fun i hi => by have b := LSA.out i hi; have a0 := SZ0.out; have a1 := HQ2.out; have a2 := E2.out; have a3 := HQ1.out; have a4 := E1.out; have a5 := KszA.out; have a6 := KszB.out; omega)
            have NSB := Lib.hid (show ∀ i ∈ GB, i ≠ q1 ∧ i ≠ q2 from fun i hi => by have b := LSB.out i hi; have a0 := SZ0.out; have a1 := HQ2.out; have a2 := E2.out; have a3 := HQ1.out; have a4 := E1.out; have a5 := KszA.out; have a6 := KszB.out; omega)
            refine wpAnyH_ready (rs := [6]) (by kernel_rfl) (by simp) ?_
            refine AllReadyH.cons (o := ⟨none, _, _, _, _, _⟩) rfl (fun KQ hKQ => ?w6h1_48) AllReadyH.nil
            case w6h1_48 =>
              refine step_put (t := 29) rfl 29 (.tmp 7) (.tmp 19) rfl _ (by first | (simp [Act.eval]; done) | (simp [Act.eval]; rfl) | rfl) (by first | (simp [Act.eval]; done) | (simp [Act.eval]; rfl) | rfl) Z1.out (by rfl) (by kernel_rfl) (by simp [Value.oneCell']) ?_
              intro w6 hb hk
              have P := Lib.hid (P.out.kept hk (by have h3 := AR.out; simp; omega))
              have Q := Lib.hid (Q.out.kept hk (by have h3 := AR.out; simp; omega))
              have K := Lib.hid (K.out.trans hk (fun i hi => .inr (by have h3 := AR.out; simp at hi; omega)))
              have Z2 := Lib.hid (Z2.out.kept hk (by have h3 := AR.out; simp; omega))
              have SA := Lib.hid (BkArr.kept SA.out hk (fun i hi => by have h1 := NSA.out i hi; simp; omega))
              have SB := Lib.hid (BkArr.kept SB.out hk (fun i hi => by have h1 := NSB.out i hi; simp; omega))
              have D1 := Lib.hid hb
              clear hb hk
              refine hKQ.out _ _ (fun o => P.out.cell o) (fun hHeld9 => ?_)
              clear hKQ KQ hHeld
              have hHeld := hHeld9
              clear hHeld9
              try simp only [Act.put]
              refine wpAnyH_ready (rs := [7]) (by kernel_rfl) (by simp) ?_
              refine AllReadyH.cons (o := ⟨none, _, _, _, _, _⟩) rfl (fun KQ hKQ => ?w7h1_49) AllReadyH.nil
              case w7h1_49 =>
                refine step_put (t := 29) rfl 29 (.tmp 8) (.tmp 21) rfl _ (by first | (simp [Act.eval]; done) | (simp [Act.eval]; rfl) | rfl) (by first | (simp [Act.eval]; done) | (simp [Act.eval]; rfl) | rfl) Z2.out (by rfl) (by kernel_rfl) (by simp [Value.oneCell']) ?_
                intro w7 hb hk
                have P := Lib.hid (P.out.kept hk (by have h3 := AR.out; simp; omega))
                have Q := Lib.hid (Q.out.kept hk (by have h3 := AR.out; simp; omega))
                have K := Lib.hid (K.out.trans hk (fun i hi => .inr (by have h3 := AR.out; simp at hi; omega)))
                have SA := Lib.hid (BkArr.kept SA.out hk (fun i hi => by have h1 := NSA.out i hi; simp; omega))
                have SB := Lib.hid (BkArr.kept SB.out hk (fun i hi => by have h1 := NSB.out i hi; simp; omega))
                have D1 := Lib.hid (D1.out.kept hk (by have h3 := AR.out; simp; omega))
                have D2 := Lib.hid hb
                clear hb hk
                refine hKQ.out _ _ (fun o => P.out.cell o) (fun hHeld9 => ?_)
                clear hKQ KQ hHeld
                have hHeld := hHeld9
                clear hHeld9
                try simp only [Act.put]
                refine wpAnyH_done (by kernel_rfl) ?_ _
                clear hHeld
                go_wp2_with fail
                go_meet
                exact ⟨⟨q1, q2, _, _, _, _, _, _, GA, GB, rfl, rfl, D1.out, D2.out, SA.out, SB.out, K.out⟩, P.out, Q.out⟩
  case rest =>
    obtain ⟨⟨q1, q2, A1, m1, c1, A2, m2, c2, G1, G2, e1, e2, b1, b2, ha, hb, hk⟩, hp, hq⟩ := hcut
    subst e1 e2
    have SA := Lib.hid ha
    have SB := Lib.hid hb
    have P := Lib.hid hp
    have Q := Lib.hid hq
    have K := Lib.hid hk
    have hcb1 := b1.cell
    have hcb2 := b2.cell
    have EB := Lib.hid (show sameBs p.backs p.backs = true from sameBs_iff.2 rfl)
    clear hq
    have hq := eqFl_run p p
    rw [show sameFl p p = true from by simp [sameFl, sameT]] at hq
    have hgd : Try.prog.eqGuardType Try.prog.depth 26 = false := by kernel_rfl
    clear ha hb hk b1 b2 hp
    go_upto_region 6 with (first
      | (go_at_call 8
         go_must (with_reducible refine (rSameBs_any _ _ _ SA.out SB.out).mono ?_)
         go_must (rintro e w9 ⟨rfl, hk⟩)
         go_must (rw [EB.out])
         go_must (have K := Lib.hid (K.out.trans hk (by simp)))
         go_must (have P := Lib.hid (P.out.kept hk (by simp)))
         go_must (have Q := Lib.hid (Q.out.kept hk (by simp)))
         go_must (clear hk)))
    obtain ⟨mv, hmv⟩ : ∃ x, mayR r = x := ⟨_, rfl⟩
    have EM := Lib.hid hmv
    obtain ⟨sv, hsv⟩ : ∃ x, sameR r s = x := ⟨_, rfl⟩
    have ES := Lib.hid hsv
    obtain ⟨j, hj⟩ : ∃ x, inR r v = x := ⟨_, rfl⟩
    have EJ := Lib.hid hj
    have EJJ := Lib.hid (sameR_refl j)
    have HL := Lib.hid (H1.out.len.1)
    have LJ := Lib.hid (show j.backs.length ≤ 40 from by rw [← hj]; exact Nat.le_trans (inR_len r v) (by have h := HL.out; omega))
    clear hmv hsv hj hq hgd hcb1 hcb2
    refine wp_region_held_drew (S := (fun w' => (∀ o, w'.cell? ⟨w.heap.size, o, none⟩ = (#[.int .i64 r.kind, .int .u32 (r.tup.src.toNat : Nat), .int .u32 (r.tup.dst.toNat : Nat), .int .i64 r.tup.proto, .int .i64 r.tup.sport, .int .i64 r.tup.dport, .int .i64 r.fb, .int .i64 r.fg, .int .i64 r.fs, .int .i64 r.gen, .slice A m c, .int .i64 r.back, .int .i64 r.until_, .int .i64 r.count] : Array Value)[o]?) ∧ ∀ o, w'.cell? ⟨w.heap.size + 1, o, none⟩ = (#[.int .i64 s.kind, .int .u32 (s.tup.src.toNat : Nat), .int .u32 (s.tup.dst.toNat : Nat), .int .i64 s.tup.proto, .int .i64 s.tup.sport, .int .i64 s.tup.dport, .int .i64 s.fb, .int .i64 s.fg, .int .i64 s.fs, .int .i64 s.gen, .slice B n d, .int .i64 s.back, .int .i64 s.until_, .int .i64 s.count] : Array Value)[o]?)) (by kernel_rfl) (⟨fun o => (P.out.drew).cell o, fun o => (Q.out.drew).cell o⟩) (fun hHeld => ?_)
    have P := Lib.hid P.out.drew
    have Q := Lib.hid Q.out.drew
    have K := Lib.hid K.out.drew
    refine wpAnyH_take (i := 0) (oi := ⟨some 70, _, _, _, _, _⟩) (v := (.agg #[.int .i64 r.kind, .int .u32 (r.tup.src.toNat : Nat), .int .u32 (r.tup.dst.toNat : Nat), .int .i64 r.tup.proto, .int .i64 r.tup.sport, .int .i64 r.tup.dport, .int .i64 r.fb, .int .i64 r.fg, .int .i64 r.fs, .int .i64 r.gen, .slice A m c, .int .i64 r.back, .int .i64 r.until_, .int .i64 r.count])) rfl (by kernel_rfl) (by kernel_rfl) (by kernel_rfl) (fun _ _ _ h => h) (Or.inl ⟨by kernel_rfl, ?hyh2_1⟩) (by assumption) ?resth2_1
    case hyh2_1 => (intro w99 hSw; (try dsimp only at hSw); obtain ⟨hS1, hS2⟩ := hSw; (try go_simp); (try with_reducible rfl); (try omega))
    simp only [Act.put, List.setIfInBounds_toArray, List.set_cons_zero, List.set_cons_succ]
    refine wpAnyH_take (i := 2) (oi := ⟨some 72, _, _, _, _, _⟩) (v := (.agg #[.int .i64 r.kind, .int .u32 (r.tup.src.toNat : Nat), .int .u32 (r.tup.dst.toNat : Nat), .int .i64 r.tup.proto, .int .i64 r.tup.sport, .int .i64 r.tup.dport, .int .i64 r.fb, .int .i64 r.fg, .int .i64 r.fs, .int .i64 r.gen, .slice A m c, .int .i64 r.back, .int .i64 r.until_, .int .i64 r.count])) rfl (by kernel_rfl) (by kernel_rfl) (by kernel_rfl) (fun _ _ _ h => h) (Or.inl ⟨by kernel_rfl, ?hyh2_2⟩) (by assumption) ?resth2_2
    case hyh2_2 => (intro w99 hSw; (try dsimp only at hSw); obtain ⟨hS1, hS2⟩ := hSw; (try go_simp); (try with_reducible rfl); (try omega))
    simp only [Act.put, List.setIfInBounds_toArray, List.set_cons_zero, List.set_cons_succ]
    refine wpAnyH_ready (rs := [1]) (by kernel_rfl) (by simp) ?_
    refine AllReadyH.cons (o := ⟨some 71, _, _, _, _, _⟩) rfl (fun KQ hKQ => ?w1h2_3) AllReadyH.nil
    case w1h2_3 =>
      go_simp
      go_at_call 9
      with_reducible refine (May_any _ r (Hs1.out g1 _ K.out)).mono ?_
      rintro e x1 ⟨rfl, hk⟩
      rw [EM.out]
      have K := Lib.hid (K.out.trans hk (by simp))
      have P := Lib.hid (P.out.kept hk (by simp))
      have Q := Lib.hid (Q.out.kept hk (by simp))
      clear hk
      go_wp2_with fail
      refine hKQ.out _ _ (⟨fun o => P.out.cell o, fun o => Q.out.cell o⟩) (fun hHeld9 => ?_)
      clear hKQ KQ hHeld
      have hHeld := hHeld9
      clear hHeld9
      try simp only [Act.put, List.setIfInBounds_toArray, List.set_cons_zero, List.set_cons_succ]
      refine wpAnyH_ready (rs := [3]) (by kernel_rfl) (by simp) ?_
      refine AllReadyH.cons (o := ⟨some 73, _, _, _, _, _⟩) rfl (fun KQ hKQ => ?w3h2_4) AllReadyH.nil
      case w3h2_4 =>
        go_simp
        go_at_call 10
        with_reducible refine (rMay_any _ r (Hs1.out g1 _ K.out)).mono ?_
        rintro e x2 ⟨rfl, hk⟩
        rw [EM.out]
        have K := Lib.hid (K.out.trans hk (by simp))
        have P := Lib.hid (P.out.kept hk (by simp))
        have Q := Lib.hid (Q.out.kept hk (by simp))
        clear hk
        go_wp2_with fail
        refine hKQ.out _ _ (⟨fun o => P.out.cell o, fun o => Q.out.cell o⟩) (fun hHeld9 => ?_)
        clear hKQ KQ hHeld
        have hHeld := hHeld9
        clear hHeld9
        try simp only [Act.put, List.setIfInBounds_toArray, List.set_cons_zero, List.set_cons_succ]
        refine wpAnyH_take (i := 4) (oi := ⟨some 74, _, _, _, _, _⟩) (v := .bool true) rfl (by kernel_rfl) (by kernel_rfl) (by kernel_rfl) (fun _ _ _ h => h) (Or.inl ⟨by kernel_rfl, ?hyh2_5⟩) (by assumption) ?resth2_5
        case hyh2_5 => (intro w99 hSw; (try dsimp only at hSw); obtain ⟨hS1, hS2⟩ := hSw; (try go_simp); (try with_reducible rfl); (try omega))
        simp only [Act.put, List.setIfInBounds_toArray, List.set_cons_zero, List.set_cons_succ]
        refine wpAnyH_take (i := 5) (oi := ⟨some 75, _, _, _, _, _⟩) (v := .bool true) rfl (by kernel_rfl) (by kernel_rfl) (by kernel_rfl) (fun _ _ _ h => h) (Or.inl ⟨by kernel_rfl, ?hyh2_6⟩) (by assumption) ?resth2_6
        case hyh2_6 => (intro w99 hSw; (try dsimp only at hSw); obtain ⟨hS1, hS2⟩ := hSw; (try go_simp); (try with_reducible rfl); (try omega))
        simp only [Act.put, List.setIfInBounds_toArray, List.set_cons_zero, List.set_cons_succ]
        refine wpAnyH_take (i := 6) (oi := ⟨some 76, _, _, _, _, _⟩) (v := (.agg #[.int .i64 r.kind, .int .u32 (r.tup.src.toNat : Nat), .int .u32 (r.tup.dst.toNat : Nat), .int .i64 r.tup.proto, .int .i64 r.tup.sport, .int .i64 r.tup.dport, .int .i64 r.fb, .int .i64 r.fg, .int .i64 r.fs, .int .i64 r.gen, .slice A m c, .int .i64 r.back, .int .i64 r.until_, .int .i64 r.count])) rfl (by kernel_rfl) (by kernel_rfl) (by kernel_rfl) (fun _ _ _ h => h) (Or.inl ⟨by kernel_rfl, ?hyh2_7⟩) (by assumption) ?resth2_7
        case hyh2_7 => (intro w99 hSw; (try dsimp only at hSw); obtain ⟨hS1, hS2⟩ := hSw; (try go_simp); (try with_reducible rfl); (try omega))
        simp only [Act.put, List.setIfInBounds_toArray, List.set_cons_zero, List.set_cons_succ]
        refine wpAnyH_take (i := 7) (oi := ⟨some 77, _, _, _, _, _⟩) (v := (.agg #[.int .i64 s.kind, .int .u32 (s.tup.src.toNat : Nat), .int .u32 (s.tup.dst.toNat : Nat), .int .i64 s.tup.proto, .int .i64 s.tup.sport, .int .i64 s.tup.dport, .int .i64 s.fb, .int .i64 s.fg, .int .i64 s.fs, .int .i64 s.gen, .slice B n d, .int .i64 s.back, .int .i64 s.until_, .int .i64 s.count])) rfl (by kernel_rfl) (by kernel_rfl) (by kernel_rfl) (fun _ _ _ h => h) (Or.inl ⟨by kernel_rfl, ?hyh2_8⟩) (by assumption) ?resth2_8
        case hyh2_8 => (intro w99 hSw; (try dsimp only at hSw); obtain ⟨hS1, hS2⟩ := hSw; (try go_simp); (try with_reducible rfl); (try omega))
        simp only [Act.put, List.setIfInBounds_toArray, List.set_cons_zero, List.set_cons_succ]
        refine wpAnyH_take (i := 9) (oi := ⟨some 79, _, _, _, _, _⟩) (v := (.agg #[.int .i64 r.kind, .int .u32 (r.tup.src.toNat : Nat), .int .u32 (r.tup.dst.toNat : Nat), .int .i64 r.tup.proto, .int .i64 r.tup.sport, .int .i64 r.tup.dport, .int .i64 r.fb, .int .i64 r.fg, .int .i64 r.fs, .int .i64 r.gen, .slice A m c, .int .i64 r.back, .int .i64 r.until_, .int .i64 r.count])) rfl (by kernel_rfl) (by kernel_rfl) (by kernel_rfl) (fun _ _ _ h => h) (Or.inl ⟨by kernel_rfl, ?hyh2_9⟩) (by assumption) ?resth2_9
        case hyh2_9 => (intro w99 hSw; (try dsimp only at hSw); obtain ⟨hS1, hS2⟩ := hSw; (try go_simp); (try with_reducible rfl); (try omega))
        simp only [Act.put, List.setIfInBounds_toArray, List.set_cons_zero, List.set_cons_succ]
        refine wpAnyH_take (i := 10) (oi := ⟨some 80, _, _, _, _, _⟩) (v := (.agg #[.int .i64 s.kind, .int .u32 (s.tup.src.toNat : Nat), .int .u32 (s.tup.dst.toNat : Nat), .int .i64 s.tup.proto, .int .i64 s.tup.sport, .int .i64 s.tup.dport, .int .i64 s.fb, .int .i64 s.fg, .int .i64 s.fs, .int .i64 s.gen, .slice B n d, .int .i64 s.back, .int .i64 s.until_, .int .i64 s.count])) rfl (by kernel_rfl) (by kernel_rfl) (by kernel_rfl) (fun _ _ _ h => h) (Or.inl ⟨by kernel_rfl, ?hyh2_10⟩) (by assumption) ?resth2_10
        case hyh2_10 => (intro w99 hSw; (try dsimp only at hSw); obtain ⟨hS1, hS2⟩ := hSw; (try go_simp); (try with_reducible rfl); (try omega))
        simp only [Act.put, List.setIfInBounds_toArray, List.set_cons_zero, List.set_cons_succ]
        refine wpAnyH_ready (rs := [8]) (by kernel_rfl) (by simp) ?_
        refine AllReadyH.cons (o := ⟨some 78, _, _, _, _, _⟩) rfl (fun KQ hKQ => ?w8h2_11) AllReadyH.nil
        case w8h2_11 =>
          go_simp
          go_at_call 11
          with_reducible refine (SameR_any _ r s (Hs1.out g1 _ K.out) (Hs2.out g2 _ K.out)).mono ?_
          rintro e x3 ⟨rfl, hk⟩
          rw [ES.out]
          have K := Lib.hid (K.out.trans hk (by simp))
          have P := Lib.hid (P.out.kept hk (by simp))
          have Q := Lib.hid (Q.out.kept hk (by simp))
          clear hk
          go_wp2_with fail
          refine hKQ.out _ _ (⟨fun o => P.out.cell o, fun o => Q.out.cell o⟩) (fun hHeld9 => ?_)
          clear hKQ KQ hHeld
          have hHeld := hHeld9
          clear hHeld9
          try simp only [Act.put, List.setIfInBounds_toArray, List.set_cons_zero, List.set_cons_succ]
          refine wpAnyH_ready (rs := [11]) (by kernel_rfl) (by simp) ?_
          refine AllReadyH.cons (o := ⟨some 81, _, _, _, _, _⟩) rfl (fun KQ hKQ => ?w11h2_12) AllReadyH.nil
          case w11h2_12 =>
            go_simp
            go_at_call 12
            with_reducible refine (rSameR_any _ r s (Hs1.out g1 _ K.out) (Hs2.out g2 _ K.out)).mono ?_
            rintro e x4 ⟨rfl, hk⟩
            rw [ES.out]
            have K := Lib.hid (K.out.trans hk (by simp))
            have P := Lib.hid (P.out.kept hk (by simp))
            have Q := Lib.hid (Q.out.kept hk (by simp))
            clear hk
            go_wp2_with fail
            refine hKQ.out _ _ (⟨fun o => P.out.cell o, fun o => Q.out.cell o⟩) (fun hHeld9 => ?_)
            clear hKQ KQ hHeld
            have hHeld := hHeld9
            clear hHeld9
            try simp only [Act.put, List.setIfInBounds_toArray, List.set_cons_zero, List.set_cons_succ]
            refine wpAnyH_take (i := 12) (oi := ⟨some 82, _, _, _, _, _⟩) (v := .bool true) rfl (by kernel_rfl) (by kernel_rfl) (by kernel_rfl) (fun _ _ _ h => h) (Or.inl ⟨by kernel_rfl, ?hyh2_13⟩) (by assumption) ?resth2_13
            case hyh2_13 => (intro w99 hSw; (try dsimp only at hSw); obtain ⟨hS1, hS2⟩ := hSw; (try go_simp); (try with_reducible rfl); (try omega))
            simp only [Act.put, List.setIfInBounds_toArray, List.set_cons_zero, List.set_cons_succ]
            refine wpAnyH_take (i := 13) (oi := ⟨some 83, _, _, _, _, _⟩) (v := .bool true) rfl (by kernel_rfl) (by kernel_rfl) (by kernel_rfl) (fun _ _ _ h => h) (Or.inl ⟨by kernel_rfl, ?hyh2_14⟩) (by assumption) ?resth2_14
            case hyh2_14 => (intro w99 hSw; (try dsimp only at hSw); obtain ⟨hS1, hS2⟩ := hSw; (try go_simp); (try with_reducible rfl); (try omega))
            simp only [Act.put, List.setIfInBounds_toArray, List.set_cons_zero, List.set_cons_succ]
            refine wpAnyH_take (i := 14) (oi := ⟨some 84, _, _, _, _, _⟩) (v := .bool true) rfl (by kernel_rfl) (by kernel_rfl) (by kernel_rfl) (fun _ _ _ h => h) (Or.inl ⟨by kernel_rfl, ?hyh2_15⟩) (by assumption) ?resth2_15
            case hyh2_15 => (intro w99 hSw; (try dsimp only at hSw); obtain ⟨hS1, hS2⟩ := hSw; (try go_simp); (try with_reducible rfl); (try omega))
            simp only [Act.put, List.setIfInBounds_toArray, List.set_cons_zero, List.set_cons_succ]
            refine wpAnyH_take (i := 15) (oi := ⟨some 85, _, _, _, _, _⟩) (v := (.agg #[.int .i64 r.kind, .int .u32 (r.tup.src.toNat : Nat), .int .u32 (r.tup.dst.toNat : Nat), .int .i64 r.tup.proto, .int .i64 r.tup.sport, .int .i64 r.tup.dport, .int .i64 r.fb, .int .i64 r.fg, .int .i64 r.fs, .int .i64 r.gen, .slice A m c, .int .i64 r.back, .int .i64 r.until_, .int .i64 r.count])) rfl (by kernel_rfl) (by kernel_rfl) (by kernel_rfl) (fun _ _ _ h => h) (Or.inl ⟨by kernel_rfl, ?hyh2_16⟩) (by assumption) ?resth2_16
            case hyh2_16 => (intro w99 hSw; (try dsimp only at hSw); obtain ⟨hS1, hS2⟩ := hSw; (try go_simp); (try with_reducible rfl); (try omega))
            simp only [Act.put, List.setIfInBounds_toArray, List.set_cons_zero, List.set_cons_succ]
            refine wpAnyH_take (i := 16) (oi := ⟨some 86, _, _, _, _, _⟩) (v := ?vh2_17) rfl (by kernel_rfl) (by kernel_rfl) (by kernel_rfl) (fun _ _ _ h => h) (Or.inl ⟨by kernel_rfl, ?hyh2_17⟩) (by assumption) ?resth2_17
            case hyh2_17 => (intro w99 hSw; (try dsimp only at hSw); obtain ⟨hS1, hS2⟩ := hSw; (try go_simp); (try with_reducible rfl); (try omega))
            simp only [Act.put, List.setIfInBounds_toArray, List.set_cons_zero, List.set_cons_succ]
            refine wpAnyH_take (i := 18) (oi := ⟨some 88, _, _, _, _, _⟩) (v := (.agg #[.int .i64 r.kind, .int .u32 (r.tup.src.toNat : Nat), .int .u32 (r.tup.dst.toNat : Nat), .int .i64 r.tup.proto, .int .i64 r.tup.sport, .int .i64 r.tup.dport, .int .i64 r.fb, .int .i64 r.fg, .int .i64 r.fs, .int .i64 r.gen, .slice A m c, .int .i64 r.back, .int .i64 r.until_, .int .i64 r.count])) rfl (by kernel_rfl) (by kernel_rfl) (by kernel_rfl) (fun _ _ _ h => h) (Or.inl ⟨by kernel_rfl, ?hyh2_18⟩) (by assumption) ?resth2_18
            case hyh2_18 => (intro w99 hSw; (try dsimp only at hSw); obtain ⟨hS1, hS2⟩ := hSw; (try go_simp); (try with_reducible rfl); (try omega))
            simp only [Act.put, List.setIfInBounds_toArray, List.set_cons_zero, List.set_cons_succ]
            refine wpAnyH_take (i := 19) (oi := ⟨some 89, _, _, _, _, _⟩) (v := ?vh2_19) rfl (by kernel_rfl) (by kernel_rfl) (by kernel_rfl) (fun _ _ _ h => h) (Or.inl ⟨by kernel_rfl, ?hyh2_19⟩) (by assumption) ?resth2_19
            case hyh2_19 => (intro w99 hSw; (try dsimp only at hSw); obtain ⟨hS1, hS2⟩ := hSw; (try go_simp); (try with_reducible rfl); (try omega))
            simp only [Act.put, List.setIfInBounds_toArray, List.set_cons_zero, List.set_cons_succ]
            refine wpAnyH_ready (rs := [17]) (by kernel_rfl) (by simp) ?_
            refine AllReadyH.cons (o := ⟨some 87, _, _, _, _, _⟩) rfl (fun KQ hKQ => ?w17h2_20) AllReadyH.nil
            case w17h2_20 =>
              go_simp
              go_at_call 13
              with_reducible refine (In_any _ r v (Hs1.out g1 _ K.out)).mono ?_
              rintro e x5 ⟨sl, rfl, hS⟩
              rw [EJ.out] at hS ⊢
              have hk := LV.kept hS
              have K := Lib.hid (K.out.trans hk (by simp))
              have P := Lib.hid (P.out.kept hk (by simp))
              have Q := Lib.hid (Q.out.kept hk (by simp))
              obtain ⟨AC, mC, cC, rfl⟩ := BkV.form hS
              have C := Lib.hid hS
              clear hS hk
              go_wp2_with fail
              refine hKQ.out _ _ (⟨fun o => P.out.cell o, fun o => Q.out.cell o⟩) (fun hHeld9 => ?_)
              clear hKQ KQ hHeld
              have hHeld := hHeld9
              clear hHeld9
              try simp only [Act.put, List.setIfInBounds_toArray, List.set_cons_zero, List.set_cons_succ]
              refine wpAnyH_ready (rs := [20]) (by kernel_rfl) (by simp) ?_
              refine AllReadyH.cons (o := ⟨some 90, _, _, _, _, _⟩) rfl (fun KQ hKQ => ?w20h2_21) AllReadyH.nil
              case w20h2_21 =>
                go_simp
                go_at_call 14
                with_reducible refine (rIn_any _ r v (Hs1.out g1 _ K.out)).mono ?_
                rintro e x6 ⟨sl, rfl, hS⟩
                rw [EJ.out] at hS ⊢
                have hk := LV.kept hS
                have K := Lib.hid (K.out.trans hk (by simp))
                have P := Lib.hid (P.out.kept hk (by simp))
                have Q := Lib.hid (Q.out.kept hk (by simp))
                have C := Lib.hid (LV.go BkOk C.out hk)
                obtain ⟨AD, mD, cD, rfl⟩ := BkV.form hS
                have D := Lib.hid hS
                clear hS hk
                go_wp2_with fail
                refine hKQ.out _ _ (⟨fun o => P.out.cell o, fun o => Q.out.cell o⟩) (fun hHeld9 => ?_)
                clear hKQ KQ hHeld
                have hHeld := hHeld9
                clear hHeld9
                try simp only [Act.put, List.setIfInBounds_toArray, List.set_cons_zero, List.set_cons_succ]
                refine wpAnyH_ready (rs := [21]) (by kernel_rfl) (by simp) ?_
                refine AllReadyH.cons (o := ⟨some 91, _, _, _, _, _⟩) rfl (fun KQ hKQ => ?w21h2_22) AllReadyH.nil
                case w21h2_22 =>
                  obtain ⟨GC, hC⟩ := BkV.small C.out (Nat.le_trans LJ.out (by omega))
                  obtain ⟨GD, hD⟩ := BkV.small D.out (Nat.le_trans LJ.out (by omega))
                  go_simp
                  go_at_call 12
                  with_reducible refine (rSameR_any _ j j hC hD).mono ?_
                  rintro e x7 ⟨rfl, hk⟩
                  clear hC hD
                  rw [EJJ.out]
                  have K := Lib.hid (K.out.trans hk (by simp))
                  have P := Lib.hid (P.out.kept hk (by simp))
                  have Q := Lib.hid (Q.out.kept hk (by simp))
                  clear hk
                  go_wp2_with fail
                  refine hKQ.out _ _ (⟨fun o => P.out.cell o, fun o => Q.out.cell o⟩) (fun hHeld9 => ?_)
                  clear hKQ KQ hHeld
                  have hHeld := hHeld9
                  clear hHeld9
                  try simp only [Act.put, List.setIfInBounds_toArray, List.set_cons_zero, List.set_cons_succ]
                  refine wpAnyH_take (i := 22) (oi := ⟨some 92, _, _, _, _, _⟩) (v := .bool true) rfl (by kernel_rfl) (by kernel_rfl) (by kernel_rfl) (fun _ _ _ h => h) (Or.inl ⟨by kernel_rfl, ?hyh2_23⟩) (by assumption) ?resth2_23
                  case hyh2_23 => (intro w99 hSw; (try dsimp only at hSw); obtain ⟨hS1, hS2⟩ := hSw; (try go_simp); (try with_reducible rfl); (try omega))
                  simp only [Act.put, List.setIfInBounds_toArray, List.set_cons_zero, List.set_cons_succ]
                  refine wpAnyH_take (i := 23) (oi := ⟨some 93, _, _, _, _, _⟩) (v := .bool true) rfl (by kernel_rfl) (by kernel_rfl) (by kernel_rfl) (fun _ _ _ h => h) (Or.inl ⟨by kernel_rfl, ?hyh2_24⟩) (by assumption) ?resth2_24
                  case hyh2_24 => (intro w99 hSw; (try dsimp only at hSw); obtain ⟨hS1, hS2⟩ := hSw; (try go_simp); (try with_reducible rfl); (try omega))
                  simp only [Act.put, List.setIfInBounds_toArray, List.set_cons_zero, List.set_cons_succ]
                  refine wpAnyH_ready (rs := [24]) (by kernel_rfl) (by simp) ?_
                  refine AllReadyH.cons (o := ⟨some 94, _, _, _, _, _⟩) rfl (fun KQ hKQ => ?w24h2_25) AllReadyH.nil
                  case w24h2_25 =>
                    go_simp
                    go_at_call 5
                    with_reducible refine (awake8_any _).mono ?_
                    rintro e x8 ⟨rfl, hk⟩
                    have K := Lib.hid (K.out.trans hk (by simp))
                    have P := Lib.hid (P.out.kept hk (by simp))
                    have Q := Lib.hid (Q.out.kept hk (by simp))
                    clear hk
                    go_wp2_with fail
                    refine hKQ.out _ _ (⟨fun o => P.out.cell o, fun o => Q.out.cell o⟩) (fun hHeld9 => ?_)
                    clear hKQ KQ hHeld
                    have hHeld := hHeld9
                    clear hHeld9
                    try simp only [Act.put, List.setIfInBounds_toArray, List.set_cons_zero, List.set_cons_succ]
                    refine wpAnyH_take (i := 25) (oi := ⟨some 95, _, _, _, _, _⟩) (v := .bool true) rfl (by kernel_rfl) (by kernel_rfl) (by kernel_rfl) (fun _ _ _ h => h) (Or.inl ⟨by kernel_rfl, ?hyh2_26⟩) (by assumption) ?resth2_26
                    case hyh2_26 => (intro w99 hSw; (try dsimp only at hSw); obtain ⟨hS1, hS2⟩ := hSw; (try go_simp); (try with_reducible rfl); (try omega))
                    simp only [Act.put, List.setIfInBounds_toArray, List.set_cons_zero, List.set_cons_succ]
                    refine wpAnyH_take (i := 26) (oi := ⟨some 6, _, _, _, _, _⟩) (v := .bool true) rfl (by kernel_rfl) (by kernel_rfl) (by kernel_rfl) (fun _ _ _ h => h) (Or.inl ⟨by kernel_rfl, ?hyh2_27⟩) (by assumption) ?resth2_27
                    case hyh2_27 => (intro w99 hSw; (try dsimp only at hSw); obtain ⟨hS1, hS2⟩ := hSw; (try go_simp); (try with_reducible rfl); (try omega))
                    simp only [Act.put, List.setIfInBounds_toArray, List.set_cons_zero, List.set_cons_succ]
                    refine wpAnyH_done (by kernel_rfl) ?_ _
                    clear hHeld
                    go_wp2_with fail
                    go_ret
                    exact ⟨rfl, K.out⟩
set_option maxHeartbeats 6400000 in
set_option maxRecDepth 100000 in
theorem RecordForms_2 (w : World) {A : Option Addr} {m c : Nat} {B : Option Addr} {n d : Nat} (r s : RecD) (v : Int) (g1 : ¬ m ≤ 40) (h1 : BkArr w (old w) (.slice A m c) r.backs) (h2 : BkArr w (old w) (.slice B n d) s.backs) :
    Calls Try.prog 3 #[.agg #[.int .i64 r.kind, .int .u32 (r.tup.src.toNat : Nat), .int .u32 (r.tup.dst.toNat : Nat), .int .i64 r.tup.proto, .int .i64 r.tup.sport, .int .i64 r.tup.dport, .int .i64 r.fb, .int .i64 r.fg, .int .i64 r.fs, .int .i64 r.gen, .slice A m c, .int .i64 r.back, .int .i64 r.until_, .int .i64 r.count], .agg #[.int .i64 s.kind, .int .u32 (s.tup.src.toNat : Nat), .int .u32 (s.tup.dst.toNat : Nat), .int .i64 s.tup.proto, .int .i64 s.tup.sport, .int .i64 s.tup.dport, .int .i64 s.fb, .int .i64 s.fg, .int .i64 s.fs, .int .i64 s.gen, .slice B n d, .int .i64 s.back, .int .i64 s.until_, .int .i64 s.count], .int .i64 v] w fun e w' => e = .returned (.bool true) ∧ Kept [] w w' := by
  have hk0 : Kept [] w ((w.alloc (.cells #[.int .i64 r.kind, .int .u32 (r.tup.src.toNat : Nat), .int .u32 (r.tup.dst.toNat : Nat), .int .i64 r.tup.proto, .int .i64 r.tup.sport, .int .i64 r.tup.dport, .int .i64 r.fb, .int .i64 r.fg, .int .i64 r.fs, .int .i64 r.gen, .slice A m c, .int .i64 r.back, .int .i64 r.until_, .int .i64 r.count] 29)).alloc (.cells #[.int .i64 s.kind, .int .u32 (s.tup.src.toNat : Nat), .int .u32 (s.tup.dst.toNat : Nat), .int .i64 s.tup.proto, .int .i64 s.tup.sport, .int .i64 s.tup.dport, .int .i64 s.fb, .int .i64 s.fg, .int .i64 s.fs, .int .i64 s.gen, .slice B n d, .int .i64 s.back, .int .i64 s.until_, .int .i64 s.count] 29)) := by (repeat (first | exact Kept.refl _ _ | apply Kept.alloc | apply Kept.drew))
  have P := Lib.hid (show Blk ((w.alloc (.cells #[.int .i64 r.kind, .int .u32 (r.tup.src.toNat : Nat), .int .u32 (r.tup.dst.toNat : Nat), .int .i64 r.tup.proto, .int .i64 r.tup.sport, .int .i64 r.tup.dport, .int .i64 r.fb, .int .i64 r.fg, .int .i64 r.fs, .int .i64 r.gen, .slice A m c, .int .i64 r.back, .int .i64 r.until_, .int .i64 r.count] 29)).alloc (.cells #[.int .i64 s.kind, .int .u32 (s.tup.src.toNat : Nat), .int .u32 (s.tup.dst.toNat : Nat), .int .i64 s.tup.proto, .int .i64 s.tup.sport, .int .i64 s.tup.dport, .int .i64 s.fb, .int .i64 s.fg, .int .i64 s.fs, .int .i64 s.gen, .slice B n d, .int .i64 s.back, .int .i64 s.until_, .int .i64 s.count] 29)) w.heap.size 29 #[.int .i64 r.kind, .int .u32 (r.tup.src.toNat : Nat), .int .u32 (r.tup.dst.toNat : Nat), .int .i64 r.tup.proto, .int .i64 r.tup.sport, .int .i64 r.tup.dport, .int .i64 r.fb, .int .i64 r.fg, .int .i64 r.fs, .int .i64 r.gen, .slice A m c, .int .i64 r.back, .int .i64 r.until_, .int .i64 r.count] from by (repeat (first | (apply Blk.new'; simp; done) | apply Blk.alloc | apply Blk.drew)))
  have Q := Lib.hid (show Blk ((w.alloc (.cells #[.int .i64 r.kind, .int .u32 (r.tup.src.toNat : Nat), .int .u32 (r.tup.dst.toNat : Nat), .int .i64 r.tup.proto, .int .i64 r.tup.sport, .int .i64 r.tup.dport, .int .i64 r.fb, .int .i64 r.fg, .int .i64 r.fs, .int .i64 r.gen, .slice A m c, .int .i64 r.back, .int .i64 r.until_, .int .i64 r.count] 29)).alloc (.cells #[.int .i64 s.kind, .int .u32 (s.tup.src.toNat : Nat), .int .u32 (s.tup.dst.toNat : Nat), .int .i64 s.tup.proto, .int .i64 s.tup.sport, .int .i64 s.tup.dport, .int .i64 s.fb, .int .i64 s.fg, .int .i64 s.fs, .int .i64 s.gen, .slice B n d, .int .i64 s.back, .int .i64 s.until_, .int .i64 s.count] 29)) (w.heap.size + 1) 29 #[.int .i64 s.kind, .int .u32 (s.tup.src.toNat : Nat), .int .u32 (s.tup.dst.toNat : Nat), .int .i64 s.tup.proto, .int .i64 s.tup.sport, .int .i64 s.tup.dport, .int .i64 s.fb, .int .i64 s.fg, .int .i64 s.fs, .int .i64 s.gen, .slice B n d, .int .i64 s.back, .int .i64 s.until_, .int .i64 s.count] from by (repeat (first | (apply Blk.new'; simp; done) | apply Blk.alloc | apply Blk.drew)))
  have K := Lib.hid hk0
  have H1 := Lib.hid (BkArr.kept h1 (Kept.refl [] w) (by simp))
  have H2 := Lib.hid (BkArr.kept h2 (Kept.refl [] w) (by simp))
  have Hs1 : Hid (m ≤ 40 → ∀ w', Kept [] w w' → SmallB w' (old w) A m c r.backs) := Lib.hid (fun hm w' hk => ⟨BkArr.kept h1 hk (by simp), fun k hk' => Nat.lt_of_lt_of_le (List.mem_range.1 hk') hk.size, by omega⟩)
  have Hs2 : Hid (n ≤ 40 → ∀ w', Kept [] w w' → SmallB w' (old w) B n d s.backs) := Lib.hid (fun hm w' hk => ⟨BkArr.kept h2 hk (by simp), fun k hk' => Nat.lt_of_lt_of_le (List.mem_range.1 hk') hk.size, by omega⟩)
  clear h1 h2 hk0
  have d1 : decide (m ≤ 40) = false := by simpa using g1
  go_enter Try.func3, Try.ntmps3
  go_wp2_with (first
    | (go_at_call 4
       with_reducible refine (light8_any _ r (BkArr.kept H1.out K.out (by simp))).mono ?_
       go_must (rintro e w1 ⟨rfl, k1⟩)
       go_must (rw [d1])
       go_must (have P := Lib.hid (P.out.kept k1 (by simp)))
       go_must (have Q := Lib.hid (Q.out.kept k1 (by simp)))
       go_must (have K := Lib.hid (K.out.trans k1 (by simp)))
       go_must (first | (clear hcx hcy) | skip)
       go_must (first | (clear hcf) | skip)
       go_must (clear k1)
       go_must (have hcx := P.out.cell)
       go_must (have hcy := Q.out.cell))
    | (go_at_call 4
       with_reducible refine (light8_any _ s (BkArr.kept H2.out K.out (by simp))).mono ?_
       go_must (rintro e w2 ⟨rfl, k1⟩)
       go_must (rw [d2])
       go_must (have P := Lib.hid (P.out.kept k1 (by simp)))
       go_must (have Q := Lib.hid (Q.out.kept k1 (by simp)))
       go_must (have K := Lib.hid (K.out.trans k1 (by simp)))
       go_must (first | (clear hcx hcy) | skip)
       go_must (first | (clear hcf) | skip)
       go_must (clear k1)
       go_must (have hcx := P.out.cell)
       go_must (have hcy := Q.out.cell))
    | (go_at_call 5
       go_must (refine (awake8_any _).mono ?_)
       go_must (rintro e w8 ⟨rfl, k1⟩)
       go_must (have K := Lib.hid (K.out.trans k1 (by simp)))
       go_must (clear k1)))
  go_ret
  exact ⟨rfl, K.out⟩

set_option maxHeartbeats 6400000 in
set_option maxRecDepth 100000 in
theorem RecordForms_3 (w : World) {A : Option Addr} {m c : Nat} {B : Option Addr} {n d : Nat} (r s : RecD) (v : Int) (g1 : m ≤ 40) (g2 : ¬ n ≤ 40) (h1 : BkArr w (old w) (.slice A m c) r.backs) (h2 : BkArr w (old w) (.slice B n d) s.backs) :
    Calls Try.prog 3 #[.agg #[.int .i64 r.kind, .int .u32 (r.tup.src.toNat : Nat), .int .u32 (r.tup.dst.toNat : Nat), .int .i64 r.tup.proto, .int .i64 r.tup.sport, .int .i64 r.tup.dport, .int .i64 r.fb, .int .i64 r.fg, .int .i64 r.fs, .int .i64 r.gen, .slice A m c, .int .i64 r.back, .int .i64 r.until_, .int .i64 r.count], .agg #[.int .i64 s.kind, .int .u32 (s.tup.src.toNat : Nat), .int .u32 (s.tup.dst.toNat : Nat), .int .i64 s.tup.proto, .int .i64 s.tup.sport, .int .i64 s.tup.dport, .int .i64 s.fb, .int .i64 s.fg, .int .i64 s.fs, .int .i64 s.gen, .slice B n d, .int .i64 s.back, .int .i64 s.until_, .int .i64 s.count], .int .i64 v] w fun e w' => e = .returned (.bool true) ∧ Kept [] w w' := by
  have hk0 : Kept [] w ((w.alloc (.cells #[.int .i64 r.kind, .int .u32 (r.tup.src.toNat : Nat), .int .u32 (r.tup.dst.toNat : Nat), .int .i64 r.tup.proto, .int .i64 r.tup.sport, .int .i64 r.tup.dport, .int .i64 r.fb, .int .i64 r.fg, .int .i64 r.fs, .int .i64 r.gen, .slice A m c, .int .i64 r.back, .int .i64 r.until_, .int .i64 r.count] 29)).alloc (.cells #[.int .i64 s.kind, .int .u32 (s.tup.src.toNat : Nat), .int .u32 (s.tup.dst.toNat : Nat), .int .i64 s.tup.proto, .int .i64 s.tup.sport, .int .i64 s.tup.dport, .int .i64 s.fb, .int .i64 s.fg, .int .i64 s.fs, .int .i64 s.gen, .slice B n d, .int .i64 s.back, .int .i64 s.until_, .int .i64 s.count] 29)) := by (repeat (first | exact Kept.refl _ _ | apply Kept.alloc | apply Kept.drew))
  have P := Lib.hid (show Blk ((w.alloc (.cells #[.int .i64 r.kind, .int .u32 (r.tup.src.toNat : Nat), .int .u32 (r.tup.dst.toNat : Nat), .int .i64 r.tup.proto, .int .i64 r.tup.sport, .int .i64 r.tup.dport, .int .i64 r.fb, .int .i64 r.fg, .int .i64 r.fs, .int .i64 r.gen, .slice A m c, .int .i64 r.back, .int .i64 r.until_, .int .i64 r.count] 29)).alloc (.cells #[.int .i64 s.kind, .int .u32 (s.tup.src.toNat : Nat), .int .u32 (s.tup.dst.toNat : Nat), .int .i64 s.tup.proto, .int .i64 s.tup.sport, .int .i64 s.tup.dport, .int .i64 s.fb, .int .i64 s.fg, .int .i64 s.fs, .int .i64 s.gen, .slice B n d, .int .i64 s.back, .int .i64 s.until_, .int .i64 s.count] 29)) w.heap.size 29 #[.int .i64 r.kind, .int .u32 (r.tup.src.toNat : Nat), .int .u32 (r.tup.dst.toNat : Nat), .int .i64 r.tup.proto, .int .i64 r.tup.sport, .int .i64 r.tup.dport, .int .i64 r.fb, .int .i64 r.fg, .int .i64 r.fs, .int .i64 r.gen, .slice A m c, .int .i64 r.back, .int .i64 r.until_, .int .i64 r.count] from by (repeat (first | (apply Blk.new'; simp; done) | apply Blk.alloc | apply Blk.drew)))
  have Q := Lib.hid (show Blk ((w.alloc (.cells #[.int .i64 r.kind, .int .u32 (r.tup.src.toNat : Nat), .int .u32 (r.tup.dst.toNat : Nat), .int .i64 r.tup.proto, .int .i64 r.tup.sport, .int .i64 r.tup.dport, .int .i64 r.fb, .int .i64 r.fg, .int .i64 r.fs, .int .i64 r.gen, .slice A m c, .int .i64 r.back, .int .i64 r.until_, .int .i64 r.count] 29)).alloc (.cells #[.int .i64 s.kind, .int .u32 (s.tup.src.toNat : Nat), .int .u32 (s.tup.dst.toNat : Nat), .int .i64 s.tup.proto, .int .i64 s.tup.sport, .int .i64 s.tup.dport, .int .i64 s.fb, .int .i64 s.fg, .int .i64 s.fs, .int .i64 s.gen, .slice B n d, .int .i64 s.back, .int .i64 s.until_, .int .i64 s.count] 29)) (w.heap.size + 1) 29 #[.int .i64 s.kind, .int .u32 (s.tup.src.toNat : Nat), .int .u32 (s.tup.dst.toNat : Nat), .int .i64 s.tup.proto, .int .i64 s.tup.sport, .int .i64 s.tup.dport, .int .i64 s.fb, .int .i64 s.fg, .int .i64 s.fs, .int .i64 s.gen, .slice B n d, .int .i64 s.back, .int .i64 s.until_, .int .i64 s.count] from by (repeat (first | (apply Blk.new'; simp; done) | apply Blk.alloc | apply Blk.drew)))
  have K := Lib.hid hk0
  have H1 := Lib.hid (BkArr.kept h1 (Kept.refl [] w) (by simp))
  have H2 := Lib.hid (BkArr.kept h2 (Kept.refl [] w) (by simp))
  have Hs1 : Hid (m ≤ 40 → ∀ w', Kept [] w w' → SmallB w' (old w) A m c r.backs) := Lib.hid (fun hm w' hk => ⟨BkArr.kept h1 hk (by simp), fun k hk' => Nat.lt_of_lt_of_le (List.mem_range.1 hk') hk.size, by omega⟩)
  have Hs2 : Hid (n ≤ 40 → ∀ w', Kept [] w w' → SmallB w' (old w) B n d s.backs) := Lib.hid (fun hm w' hk => ⟨BkArr.kept h2 hk (by simp), fun k hk' => Nat.lt_of_lt_of_le (List.mem_range.1 hk') hk.size, by omega⟩)
  clear h1 h2 hk0
  have d1 : decide (m ≤ 40) = true := by simpa using g1
  have d2 : decide (n ≤ 40) = false := by simpa using g2
  go_enter Try.func3, Try.ntmps3
  go_wp2_with (first
    | (go_at_call 4
       with_reducible refine (light8_any _ r (BkArr.kept H1.out K.out (by simp))).mono ?_
       go_must (rintro e w1 ⟨rfl, k1⟩)
       go_must (rw [d1])
       go_must (have P := Lib.hid (P.out.kept k1 (by simp)))
       go_must (have Q := Lib.hid (Q.out.kept k1 (by simp)))
       go_must (have K := Lib.hid (K.out.trans k1 (by simp)))
       go_must (first | (clear hcx hcy) | skip)
       go_must (first | (clear hcf) | skip)
       go_must (clear k1)
       go_must (have hcx := P.out.cell)
       go_must (have hcy := Q.out.cell))
    | (go_at_call 4
       with_reducible refine (light8_any _ s (BkArr.kept H2.out K.out (by simp))).mono ?_
       go_must (rintro e w2 ⟨rfl, k1⟩)
       go_must (rw [d2])
       go_must (have P := Lib.hid (P.out.kept k1 (by simp)))
       go_must (have Q := Lib.hid (Q.out.kept k1 (by simp)))
       go_must (have K := Lib.hid (K.out.trans k1 (by simp)))
       go_must (first | (clear hcx hcy) | skip)
       go_must (first | (clear hcf) | skip)
       go_must (clear k1)
       go_must (have hcx := P.out.cell)
       go_must (have hcy := Q.out.cell))
    | (go_at_call 5
       go_must (refine (awake8_any _).mono ?_)
       go_must (rintro e w8 ⟨rfl, k1⟩)
       go_must (have K := Lib.hid (K.out.trans k1 (by simp)))
       go_must (clear k1)))
  go_ret
  exact ⟨rfl, K.out⟩

theorem RecordForms_any (w : World) {A : Option Addr} {m c : Nat} {B : Option Addr} {n d : Nat} (r s : RecD) (v : Int) (h1 : BkArr w (old w) (.slice A m c) r.backs) (h2 : BkArr w (old w) (.slice B n d) s.backs) :
    Calls Try.prog 3 #[.agg #[.int .i64 r.kind, .int .u32 (r.tup.src.toNat : Nat), .int .u32 (r.tup.dst.toNat : Nat), .int .i64 r.tup.proto, .int .i64 r.tup.sport, .int .i64 r.tup.dport, .int .i64 r.fb, .int .i64 r.fg, .int .i64 r.fs, .int .i64 r.gen, .slice A m c, .int .i64 r.back, .int .i64 r.until_, .int .i64 r.count], .agg #[.int .i64 s.kind, .int .u32 (s.tup.src.toNat : Nat), .int .u32 (s.tup.dst.toNat : Nat), .int .i64 s.tup.proto, .int .i64 s.tup.sport, .int .i64 s.tup.dport, .int .i64 s.fb, .int .i64 s.fg, .int .i64 s.fs, .int .i64 s.gen, .slice B n d, .int .i64 s.back, .int .i64 s.until_, .int .i64 s.count], .int .i64 v] w fun e w' => e = .returned (.bool true) ∧ Kept [] w w' := by
  by_cases g1 : m ≤ 40
  · by_cases g2 : n ≤ 40
    · exact RecordForms_1 w r s v g1 g2 h1 h2
    · exact RecordForms_3 w r s v g1 g2 h1 h2
  · exact RecordForms_2 w r s v g1 h1 h2

set_option maxRecDepth 100000 in
theorem RecordForms_walk {H : Type} {enc : TypeId × Value → H} {S : Prop} (W : World) (base : Nat) (v0 : Value) (d0 : DataW H) (p0 : List MemPlace) (v1 : Value) (d1 : DataW H) (p1 : List MemPlace) (v2 : Value) (d2 : DataW H) (p2 : List MemPlace)
    (hv0 : Value.okWide Try.prog W .any base 29 v0) (hv1 : Value.okWide Try.prog W .any base 29 v1) (hv2 : Value.okWide Try.prog W .any base 3 v2)
    (h0 : DataW.Trod enc Try.prog W 0 (fun _ => true) true 29 v0 d0 p0) (h1 : DataW.Trod enc Try.prog W 0 (fun _ => true) true 29 v1 d1 p1) (h2 : DataW.Trod enc Try.prog W 0 (fun _ => true) true 3 v2 d2 p2) (_ : S) :
    Calls Try.prog 3 #[v0, v1, v2] W fun e W' => e = .returned (.bool true) ∧ Below W.heap.size W W' := by
  obtain ⟨r, A, m, c, rfl, hr⟩ := open_record hv0 h0
  obtain ⟨s, B, n, d, rfl, hs⟩ := open_record hv1 h1
  obtain ⟨v, rfl, rfl, rfl, _⟩ := open_int Try.underlying3 hv2 h2
  exact (RecordForms_any W r s v hr hs).mono fun e W' ⟨h, hk⟩ => ⟨h, hk.below (Nat.le_refl _) (by simp)⟩
end Go.Proofs.Ytoibecclilmllaa
