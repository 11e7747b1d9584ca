
/-
  Records brought to a newer format: the contracts of migrate.turn, migrate.Record and of the reference's Migrate.
-/
import Derived.Test.YtogdpfjbclnlnaaMigA
import Derived.Test.YtogdpfjbclnlnaaRecQ
namespace Go.Proofs.Ytogdpfjbclnlnaa
open Go.RowKit Go.ChangeShapes Go.WideShapes Go.Deep
set_option linter.unusedVariables false

set_option maxHeartbeats 6400000 in
set_option maxRecDepth 100000 in
theorem turn_any (w : World) {G : List Nat} {A : Option Addr} {m c : Nat} (r : RecD) (a b : Int) (hab : waysB a b = true) (h : SmallB w G A m c r.backs) :
    Calls Try.prog 52 #[.agg #[.int .i64 r.kind, .int .u32 (r.tup.src.toNat : Nat), .int .u32 (r.tup.dst.toNat : Nat), .int .i64 r.tup.proto, .int .i64 r.tup.sport, .int .i64 r.tup.dport, .int .i64 r.fb, .int .i64 r.fg, .int .i64 r.fs, .int .i64 r.gen, .slice A m c, .int .i64 r.back, .int .i64 r.until_, .int .i64 r.count], .int .i64 a, .int .i64 b] w fun e w' => ∃ sl, e = .returned (.agg #[.int .i64 (migP (inR r a) a b).kind, .int .u32 ((migP (inR r a) a b).tup.src.toNat : Nat), .int .u32 ((migP (inR r a) a b).tup.dst.toNat : Nat), .int .i64 (migP (inR r a) a b).tup.proto, .int .i64 (migP (inR r a) a b).tup.sport, .int .i64 (migP (inR r a) a b).tup.dport, .int .i64 (migP (inR r a) a b).fb, .int .i64 (migP (inR r a) a b).fg, .int .i64 (migP (inR r a) a b).fs, .int .i64 (migP (inR r a) a b).gen, sl, .int .i64 (migP (inR r a) a b).back, .int .i64 (migP (inR r a) a b).until_, .int .i64 (migP (inR r a) a b).count]) ∧ BkV w w' sl (migP (inR r a) a b).backs := by
  have hk0 : Kept [] w ((w.alloc (.cells #[.int .i64 r.kind, .int .u32 (r.tup.src.toNat : Nat), .int .u32 (r.tup.dst.toNat : Nat), .int .i64 r.tup.proto, .int .i64 r.tup.sport, .int .i64 r.tup.dport, .int .i64 r.fb, .int .i64 r.fg, .int .i64 r.fs, .int .i64 r.gen, .slice A m c, .int .i64 r.back, .int .i64 r.until_, .int .i64 r.count] 29)).alloc (.cells #[.int .i64 0, .int .u32 0, .int .u32 0, .int .i64 0, .int .i64 0, .int .i64 0, .int .i64 0, .int .i64 0, .int .i64 0, .int .i64 0, .slice none 0 0, .int .i64 0, .int .i64 0, .int .i64 0] 29)) := by (repeat (first | exact Kept.refl _ _ | apply Kept.alloc | apply Kept.drew))
  have P := Lib.hid (show Blk ((w.alloc (.cells #[.int .i64 r.kind, .int .u32 (r.tup.src.toNat : Nat), .int .u32 (r.tup.dst.toNat : Nat), .int .i64 r.tup.proto, .int .i64 r.tup.sport, .int .i64 r.tup.dport, .int .i64 r.fb, .int .i64 r.fg, .int .i64 r.fs, .int .i64 r.gen, .slice A m c, .int .i64 r.back, .int .i64 r.until_, .int .i64 r.count] 29)).alloc (.cells #[.int .i64 0, .int .u32 0, .int .u32 0, .int .i64 0, .int .i64 0, .int .i64 0, .int .i64 0, .int .i64 0, .int .i64 0, .int .i64 0, .slice none 0 0, .int .i64 0, .int .i64 0, .int .i64 0] 29)) w.heap.size 29 #[.int .i64 r.kind, .int .u32 (r.tup.src.toNat : Nat), .int .u32 (r.tup.dst.toNat : Nat), .int .i64 r.tup.proto, .int .i64 r.tup.sport, .int .i64 r.tup.dport, .int .i64 r.fb, .int .i64 r.fg, .int .i64 r.fs, .int .i64 r.gen, .slice A m c, .int .i64 r.back, .int .i64 r.until_, .int .i64 r.count] from by (repeat (first | (apply Blk.new'; simp; done) | apply Blk.alloc | apply Blk.drew)))
  have B := Lib.hid (show Blk ((w.alloc (.cells #[.int .i64 r.kind, .int .u32 (r.tup.src.toNat : Nat), .int .u32 (r.tup.dst.toNat : Nat), .int .i64 r.tup.proto, .int .i64 r.tup.sport, .int .i64 r.tup.dport, .int .i64 r.fb, .int .i64 r.fg, .int .i64 r.fs, .int .i64 r.gen, .slice A m c, .int .i64 r.back, .int .i64 r.until_, .int .i64 r.count] 29)).alloc (.cells #[.int .i64 0, .int .u32 0, .int .u32 0, .int .i64 0, .int .i64 0, .int .i64 0, .int .i64 0, .int .i64 0, .int .i64 0, .int .i64 0, .slice none 0 0, .int .i64 0, .int .i64 0, .int .i64 0] 29)) (w.heap.size + 1) 29 #[.int .i64 0, .int .u32 0, .int .u32 0, .int .i64 0, .int .i64 0, .int .i64 0, .int .i64 0, .int .i64 0, .int .i64 0, .int .i64 0, .slice none 0 0, .int .i64 0, .int .i64 0, .int .i64 0] from by (repeat (first | (apply Blk.new'; simp; done) | apply Blk.alloc | apply Blk.drew)))
  have H : Hid (SmallB ((w.alloc (.cells #[.int .i64 r.kind, .int .u32 (r.tup.src.toNat : Nat), .int .u32 (r.tup.dst.toNat : Nat), .int .i64 r.tup.proto, .int .i64 r.tup.sport, .int .i64 r.tup.dport, .int .i64 r.fb, .int .i64 r.fg, .int .i64 r.fs, .int .i64 r.gen, .slice A m c, .int .i64 r.back, .int .i64 r.until_, .int .i64 r.count] 29)).alloc (.cells #[.int .i64 0, .int .u32 0, .int .u32 0, .int .i64 0, .int .i64 0, .int .i64 0, .int .i64 0, .int .i64 0, .int .i64 0, .int .i64 0, .slice none 0 0, .int .i64 0, .int .i64 0, .int .i64 0] 29)) G A m c r.backs) := Lib.hid ⟨BkArr.kept h.1 hk0 (by simp), fun k hk => Nat.lt_of_lt_of_le (h.2.1 k hk) hk0.size, h.2.2⟩
  have K := Lib.hid hk0
  clear h hk0
  have hst := steps_mig (p := inR r a) hab
  have hva : 1 ≤ a ∧ a ≤ b ∧ b ≤ 3 := by simpa [waysB] using hab
  obtain ⟨n, hn⟩ : ∃ n : Nat, (b - a).toNat = n := ⟨_, rfl⟩
  have hbn : b = a + n := by omega
  rw [hn] at hst
  obtain ⟨p, hp⟩ : ∃ p, inR r a = p := ⟨_, rfl⟩
  rw [hp] at hst ⊢
  have EP := Lib.hid hp
  have HST := Lib.hid hst
  have HBN := Lib.hid hbn
  have ha1 := hva.1
  have hb3 := hva.2.2
  have hn2 : n ≤ 2 := by omega
  clear hp hst hbn hn hab hva
  go_enter Try.func52, Try.ntmps52
  go_wp2_with (first
    | (go_at_call 27
       go_must (refine (In_any _ r a H.out).mono ?_)
       go_must (rintro e w1 ⟨sl, rfl, hS⟩)
       go_must (rw [EP.out] at hS ⊢)
       go_must (have B := Lib.hid (B.out.kept (LV.kept hS) (by simp)))
       go_must (have P := Lib.hid (P.out.kept (LV.kept hS) (by simp)))
       go_must (have S := Lib.hid (LV.wide hS K.out))
       go_must (obtain ⟨A3, m3, c3, rfl⟩ := BkV.form S.out)
       go_must (have hlt1 := B.out.lt)
       go_must (clear hS))
    | (with_reducible show wpList _ _ _ ({ dst := none, op := Op.store 29 (.tmp 3) (.tmp 11), type := _, pos := _, after := _, guard := _ } :: _) _ _
       go_must (refine wpList_put (t := 29) rfl 29 (.tmp 3) (.tmp 11) rfl _ (by rfl) (by rfl) P.out (by rfl) (by kernel_rfl) (by simp [Value.oneCell']) ?_)
       go_must (intro w2 h1 k1)
       go_must (have S := Lib.hid (BkV.far S.out k1 P.out (by decide) (by omega)))
       go_must (have P := Lib.hid (show Blk w2 w.heap.size 29 #[.int .i64 p.kind, .int .u32 (p.tup.src.toNat : Nat), .int .u32 (p.tup.dst.toNat : Nat), .int .i64 p.tup.proto, .int .i64 p.tup.sport, .int .i64 p.tup.dport, .int .i64 p.fb, .int .i64 p.fg, .int .i64 p.fs, .int .i64 p.gen, .slice A3 m3 c3, .int .i64 p.back, .int .i64 p.until_, .int .i64 p.count] from h1))
       go_must (have B := Lib.hid (B.out.kept k1 (by simp)))
       go_must (have hlt2 := B.out.lt)
       go_must (clear h1 k1))
    | (go_at_call 76
       go_must (refine (steps_any _ a b n ha1 HBN.out hb3).mono ?_)
       go_must (rintro e w3 ⟨v, rfl, hF⟩)
       go_must (obtain ⟨css, G3, hx, hG3⟩ := hF)
       go_must (obtain ⟨AF, cF, rfl, -, -⟩ := hx.own.form)
       go_must (have hk := hx.keptW)
       go_must (have F : Hid (FnArr w3 (G3 ++ rowOf (.slice AF (numsK a n).length cF)) (.slice AF (numsK a n).length cF) (numsK a n)) := Lib.hid (hx.arr FnOk))
       go_must (have HGF : Hid (∀ k ∈ G3 ++ rowOf (.slice AF (numsK a n).length cF), w.heap.size < k) := Lib.hid (fun k hk => by rcases List.mem_append.1 hk with hk | hk; have := hG3 k hk; omega; have := hx.new k hk; omega))
       go_must (have P := Lib.hid (P.out.kept hk (by simp)))
       go_must (have B := Lib.hid (B.out.kept hk (by simp)))
       go_must (have S := Lib.hid (LV.go BkOk S.out hk))
       go_must (clear hk hx hG3)))
  generalize hGG : G3 ++ rowOf (.slice AF (numsK a n).length cF) = GG at *
  clear hGG
  have HLn := Lib.hid (numsK_len a n)
  have hnl : ((numsK a n).length : Nat) = n := numsK_len a n
  rw [hnl] at F ⊢
  clear hnl
  go_loopg [16] n (fun g i wr => ∃ k : Nat, k ≤ n ∧ g = n - k ∧ i = .int .i64 k ∧ Blk wr w.heap.size 29 #[.int .i64 (stepsK p a k).kind, .int .u32 ((stepsK p a k).tup.src.toNat : Nat), .int .u32 ((stepsK p a k).tup.dst.toNat : Nat), .int .i64 (stepsK p a k).tup.proto, .int .i64 (stepsK p a k).tup.sport, .int .i64 (stepsK p a k).tup.dport, .int .i64 (stepsK p a k).fb, .int .i64 (stepsK p a k).fg, .int .i64 (stepsK p a k).fs, .int .i64 (stepsK p a k).gen, .slice A3 m3 c3, .int .i64 (stepsK p a k).back, .int .i64 (stepsK p a k).until_, .int .i64 (stepsK p a k).count] ∧ Blk wr (w.heap.size + 1) 29 #[.int .i64 0, .int .u32 0, .int .u32 0, .int .i64 0, .int .i64 0, .int .i64 0, .int .i64 0, .int .i64 0, .int .i64 0, .int .i64 0, .slice none 0 0, .int .i64 0, .int .i64 0, .int .i64 0] ∧ BkV w wr (.slice A3 m3 c3) p.backs ∧ FnArr wr GG (.slice AF n cF) (numsK a n))
  case atStart => exact ⟨0, by omega, by omega, rfl, P.out, B.out, S.out, F.out⟩
  case round =>
    obtain ⟨k, hk, rfl, rfl, hP, hB, hS, hF⟩ := hrel
    have P := Lib.hid hP
    have B := Lib.hid hB
    have S := Lib.hid hS
    have F := Lib.hid hF
    clear hP hB hS hF
    have hcx := P.out.cell
    have hlt5 := B.out.lt
    by_cases hkn : k < n
    · obtain ⟨g, o, b5, bv, rfl, hcl, hb5, hbv⟩ := F.out.at (k := k) (by rw [HLn.out]; exact hkn)
      rw [numsK_get] at hbv
      have B5 := Lib.hid hb5
      have BV := Lib.hid hbv
      have i0 : (0 : Int) ≤ (k : Int) := by omega
      have i1 : (k : Int) < (n : Int) := by omega
      obtain ⟨y, hy⟩ : ∃ y, stepsK p a k = y := ⟨_, rfl⟩
      have HY := Lib.hid (show stepsK p a (k + 1) = stepR (a + k) y by rw [← hy]; rfl)
      rw [hy] at hcx
      have P := Lib.hid (show Blk wr w.heap.size 29 #[.int .i64 y.kind, .int .u32 (y.tup.src.toNat : Nat), .int .u32 (y.tup.dst.toNat : Nat), .int .i64 y.tup.proto, .int .i64 y.tup.sport, .int .i64 y.tup.dport, .int .i64 y.fb, .int .i64 y.fg, .int .i64 y.fs, .int .i64 y.gen, .slice A3 m3 c3, .int .i64 y.back, .int .i64 y.until_, .int .i64 y.count] by rw [← hy]; exact P.out)
      clear hb5 hbv hy
      go_wp2_with (first
        | (go_at_call 86
           go_must (refine (S1_any _ (a + k) y B5.out BV.out).mono ?_)
           go_must (rintro e w6 ⟨rfl, k1⟩)
           go_must (have P := Lib.hid (P.out.kept k1 (by simp)))
           go_must (have B := Lib.hid (B.out.kept k1 (by simp)))
           go_must (have S := Lib.hid (LV.go BkOk S.out k1))
           go_must (have F := Lib.hid (F.out.kept k1 (by simp)))
           go_must (rw [← HY.out])
           go_must (clear k1 hcx hcl))
        | (with_reducible show wpList _ _ _ ({ dst := none, op := Op.store 29 (.tmp 3) (.tmp 22), type := _, pos := _, after := _, guard := _ } :: _) _ _
           go_must (refine wpList_put (t := 29) rfl 29 (.tmp 3) (.tmp 22) rfl _ (by rfl) (by rfl) P.out (by rfl) (by kernel_rfl) (by simp [Value.oneCell']) ?_)
           go_must (intro w7 h1 k1)
           go_must (have S := Lib.hid (BkV.far S.out k1 P.out (by decide) (by omega)))
           go_must (have F := Lib.hid (F.out.kept k1 (fun i hi hm => by simp at hm; have := HGF.out i hi; omega)))
           go_must (have P := Lib.hid (show Blk w7 w.heap.size 29 #[.int .i64 (stepsK p a (k + 1)).kind, .int .u32 ((stepsK p a (k + 1)).tup.src.toNat : Nat), .int .u32 ((stepsK p a (k + 1)).tup.dst.toNat : Nat), .int .i64 (stepsK p a (k + 1)).tup.proto, .int .i64 (stepsK p a (k + 1)).tup.sport, .int .i64 (stepsK p a (k + 1)).tup.dport, .int .i64 (stepsK p a (k + 1)).fb, .int .i64 (stepsK p a (k + 1)).fg, .int .i64 (stepsK p a (k + 1)).fs, .int .i64 (stepsK p a (k + 1)).gen, .slice A3 m3 c3, .int .i64 (stepsK p a (k + 1)).back, .int .i64 (stepsK p a (k + 1)).until_, .int .i64 (stepsK p a (k + 1)).count] from h1))
           go_must (have B := Lib.hid (B.out.kept k1 (by simp)))
           go_must (clear h1 k1)))
      go_roundg (n - (k + 1))
      case measure => omega
      case rel => exact ⟨k + 1, by omega, rfl, by go_num, P.out, B.out, S.out, F.out⟩
    · obtain rfl : n = k := by omega
      have i1 : ¬ (n : Int) < (n : Int) := by omega
      have P := Lib.hid (HST.out ▸ P.out)
      have hcx := P.out.cell
      have HBK := Lib.hid (show p.backs = (migP p a b).backs by rw [← HST.out, stepsK_backs])
      rw [HST.out] at *
      go_wp2_with ((with_reducible show wpList _ _ _ ({ dst := none, op := Op.store 29 (.tmp 6) (.tmp 24), type := _, pos := _, after := _, guard := _ } :: _) _ _); refine wpList_put (t := 29) rfl 29 (.tmp 6) (.tmp 24) rfl _ (by rfl) (by rfl) (by exact B.out) (by rfl) (by kernel_rfl) (by simp [Value.oneCell']) ?_; intro w9 hb9 hk9; have Hb9 := Lib.hid hb9; have Hk9 := Lib.hid hk9; clear hb9 hk9)
      refine bodyPost_ret (results_cell (t := 29) Try.results52 (by rfl) Hb9.out _ Try.underlying29 rfl (by kernel_rfl)) rfl ?_
      exact ⟨_, rfl, BkV.cast (BkV.far S.out Hk9.out B.out (by decide) (by omega)) HBK.out⟩
set_option maxHeartbeats 6400000 in
set_option maxRecDepth 100000 in
theorem mRecord_any (w : World) {G : List Nat} {A : Option Addr} {m c : Nat} (r : RecD) (a b : Int) (h : SmallB w G A m c r.backs) :
    Calls Try.prog 21 #[.agg #[.int .i64 r.kind, .int .u32 (r.tup.src.toNat : Nat), .int .u32 (r.tup.dst.toNat : Nat), .int .i64 r.tup.proto, .int .i64 r.tup.sport, .int .i64 r.tup.dport, .int .i64 r.fb, .int .i64 r.fg, .int .i64 r.fs, .int .i64 r.gen, .slice A m c, .int .i64 r.back, .int .i64 r.until_, .int .i64 r.count], .int .i64 a, .int .i64 b] w fun e w' => ∃ sl, e = .returned (.tuple #[.agg #[.int .i64 (migR r a b).kind, .int .u32 ((migR r a b).tup.src.toNat : Nat), .int .u32 ((migR r a b).tup.dst.toNat : Nat), .int .i64 (migR r a b).tup.proto, .int .i64 (migR r a b).tup.sport, .int .i64 (migR r a b).tup.dport, .int .i64 (migR r a b).fb, .int .i64 (migR r a b).fg, .int .i64 (migR r a b).fs, .int .i64 (migR r a b).gen, sl, .int .i64 (migR r a b).back, .int .i64 (migR r a b).until_, .int .i64 (migR r a b).count], .int .i64 (migE r a b)]) ∧ BkV w w' sl (migR r a b).backs := by
  have hk0 : Kept [] w ((w.alloc (.cells #[.int .i64 r.kind, .int .u32 (r.tup.src.toNat : Nat), .int .u32 (r.tup.dst.toNat : Nat), .int .i64 r.tup.proto, .int .i64 r.tup.sport, .int .i64 r.tup.dport, .int .i64 r.fb, .int .i64 r.fg, .int .i64 r.fs, .int .i64 r.gen, .slice A m c, .int .i64 r.back, .int .i64 r.until_, .int .i64 r.count] 29)).alloc (.cells #[.int .i64 0, .int .u32 0, .int .u32 0, .int .i64 0, .int .i64 0, .int .i64 0, .int .i64 0, .int .i64 0, .int .i64 0, .int .i64 0, .slice none 0 0, .int .i64 0, .int .i64 0, .int .i64 0] 29)) := by (repeat (first | exact Kept.refl _ _ | apply Kept.alloc | apply Kept.drew))
  have P := Lib.hid (show Blk ((w.alloc (.cells #[.int .i64 r.kind, .int .u32 (r.tup.src.toNat : Nat), .int .u32 (r.tup.dst.toNat : Nat), .int .i64 r.tup.proto, .int .i64 r.tup.sport, .int .i64 r.tup.dport, .int .i64 r.fb, .int .i64 r.fg, .int .i64 r.fs, .int .i64 r.gen, .slice A m c, .int .i64 r.back, .int .i64 r.until_, .int .i64 r.count] 29)).alloc (.cells #[.int .i64 0, .int .u32 0, .int .u32 0, .int .i64 0, .int .i64 0, .int .i64 0, .int .i64 0, .int .i64 0, .int .i64 0, .int .i64 0, .slice none 0 0, .int .i64 0, .int .i64 0, .int .i64 0] 29)) w.heap.size 29 #[.int .i64 r.kind, .int .u32 (r.tup.src.toNat : Nat), .int .u32 (r.tup.dst.toNat : Nat), .int .i64 r.tup.proto, .int .i64 r.tup.sport, .int .i64 r.tup.dport, .int .i64 r.fb, .int .i64 r.fg, .int .i64 r.fs, .int .i64 r.gen, .slice A m c, .int .i64 r.back, .int .i64 r.until_, .int .i64 r.count] from by (repeat (first | (apply Blk.new'; simp; done) | apply Blk.alloc | apply Blk.drew)))
  have B := Lib.hid (show Blk ((w.alloc (.cells #[.int .i64 r.kind, .int .u32 (r.tup.src.toNat : Nat), .int .u32 (r.tup.dst.toNat : Nat), .int .i64 r.tup.proto, .int .i64 r.tup.sport, .int .i64 r.tup.dport, .int .i64 r.fb, .int .i64 r.fg, .int .i64 r.fs, .int .i64 r.gen, .slice A m c, .int .i64 r.back, .int .i64 r.until_, .int .i64 r.count] 29)).alloc (.cells #[.int .i64 0, .int .u32 0, .int .u32 0, .int .i64 0, .int .i64 0, .int .i64 0, .int .i64 0, .int .i64 0, .int .i64 0, .int .i64 0, .slice none 0 0, .int .i64 0, .int .i64 0, .int .i64 0] 29)) (w.heap.size + 1) 29 #[.int .i64 0, .int .u32 0, .int .u32 0, .int .i64 0, .int .i64 0, .int .i64 0, .int .i64 0, .int .i64 0, .int .i64 0, .int .i64 0, .slice none 0 0, .int .i64 0, .int .i64 0, .int .i64 0] from by (repeat (first | (apply Blk.new'; simp; done) | apply Blk.alloc | apply Blk.drew)))
  have H : Hid (SmallB ((w.alloc (.cells #[.int .i64 r.kind, .int .u32 (r.tup.src.toNat : Nat), .int .u32 (r.tup.dst.toNat : Nat), .int .i64 r.tup.proto, .int .i64 r.tup.sport, .int .i64 r.tup.dport, .int .i64 r.fb, .int .i64 r.fg, .int .i64 r.fs, .int .i64 r.gen, .slice A m c, .int .i64 r.back, .int .i64 r.until_, .int .i64 r.count] 29)).alloc (.cells #[.int .i64 0, .int .u32 0, .int .u32 0, .int .i64 0, .int .i64 0, .int .i64 0, .int .i64 0, .int .i64 0, .int .i64 0, .int .i64 0, .slice none 0 0, .int .i64 0, .int .i64 0, .int .i64 0] 29)) G A m c r.backs) := Lib.hid ⟨BkArr.kept h.1 hk0 (by simp), fun k hk => Nat.lt_of_lt_of_le (h.2.1 k hk) hk0.size, h.2.2⟩
  have K := Lib.hid hk0
  clear h hk0
  cases hw : waysB a b
  · have HE := Lib.hid (show migE r a b = 10 by simp [migE, hw])
    have HR := Lib.hid (show migR r a b = default by simp [migR, hw])
    go_enter Try.func21, Try.ntmps21
    go_wp2_with (first
      | (go_at_call 51
         go_must (refine (ways_any _ _ _).mono ?_)
         go_must (rintro e w' ⟨rfl, rfl⟩)
         go_must (rw [hw]))
      | ((with_reducible show wpList _ _ _ ({ dst := none, op := Op.store 29 (.tmp 6) (.tmp 13), type := _, pos := _, after := _, guard := _ } :: _) _ _); refine wpList_put (t := 29) rfl 29 (.tmp 6) (.tmp 13) rfl _ (by rfl) (by rfl) (by exact B.out) (by rfl) (by kernel_rfl) (by simp [Value.oneCell']) ?_; intro w9 hb9 hk9; have Hb9 := Lib.hid hb9; have Hk9 := Lib.hid hk9; clear hb9 hk9))
    refine bodyPost_ret (results_cell1 (t := 29) Try.results21 (by rfl) Hb9.out _ Try.underlying29 rfl (by kernel_rfl)) rfl ?_
    rw [HE.out, HR.out]
    exact ⟨_, rfl, LV.nil (K.out.trans Hk9.out (fun i hi => .inr (by simp at hi; omega)))⟩
  · have HW := Lib.hid hw
    cases dm : mayR r
    · have HE := Lib.hid (show migE r a b = 1 by simp [migE, hw, dm])
      have HR := Lib.hid (show migR r a b = default by simp [migR, dm])
      go_enter Try.func21, Try.ntmps21
      go_wp2_with (first
        | (go_at_call 51
           go_must (refine (ways_any _ _ _).mono ?_)
           go_must (rintro e w' ⟨rfl, rfl⟩)
           go_must (rw [hw]))
        | (go_at_call 18
           go_must (refine (May_any _ r H.out).mono ?_)
           go_must (rintro e w1 ⟨rfl, k1⟩)
           go_must (rw [dm])
           go_must (have P := Lib.hid (P.out.kept k1 (by simp)))
           go_must (have B := Lib.hid (B.out.kept k1 (by simp)))
           go_must (have H : Hid (SmallB w1 G A m c r.backs) := Lib.hid ⟨BkArr.kept H.out.1 k1 (by simp), fun k hk => Nat.lt_of_lt_of_le (H.out.2.1 k hk) k1.size, H.out.2.2⟩)
           go_must (have K := Lib.hid (K.out.trans k1 (by simp)))
           go_must (have hcx := P.out.cell)
           go_must (clear k1))
        | ((with_reducible show wpList _ _ _ ({ dst := none, op := Op.store 29 (.tmp 6) (.tmp 18), type := _, pos := _, after := _, guard := _ } :: _) _ _); refine wpList_put (t := 29) rfl 29 (.tmp 6) (.tmp 18) rfl _ (by rfl) (by rfl) (by exact B.out) (by rfl) (by kernel_rfl) (by simp [Value.oneCell']) ?_; intro w9 hb9 hk9; have Hb9 := Lib.hid hb9; have Hk9 := Lib.hid hk9; clear hb9 hk9))
      refine bodyPost_ret (results_cell1 (t := 29) Try.results21 (by rfl) Hb9.out _ Try.underlying29 rfl (by kernel_rfl)) rfl ?_
      rw [HE.out, HR.out]
      exact ⟨_, rfl, LV.nil (K.out.trans Hk9.out (fun i hi => .inr (by simp at hi; omega)))⟩
    · have HE := Lib.hid (show migE r a b = 0 by simp [migE, hw, dm])
      obtain ⟨y, hy⟩ : ∃ y, migP (inR r a) a b = y := ⟨_, rfl⟩
      have EY := Lib.hid hy
      have HR := Lib.hid (show migR r a b = y by simp [migR, hw, dm, hy])
      clear hy
      go_enter Try.func21, Try.ntmps21
      go_wp2_with (first
        | (go_at_call 51
           go_must (refine (ways_any _ _ _).mono ?_)
           go_must (rintro e w' ⟨rfl, rfl⟩)
           go_must (rw [hw]))
        | (go_at_call 18
           go_must (refine (May_any _ r H.out).mono ?_)
           go_must (rintro e w1 ⟨rfl, k1⟩)
           go_must (rw [dm])
           go_must (have P := Lib.hid (P.out.kept k1 (by simp)))
           go_must (have B := Lib.hid (B.out.kept k1 (by simp)))
           go_must (have H : Hid (SmallB w1 G A m c r.backs) := Lib.hid ⟨BkArr.kept H.out.1 k1 (by simp), fun k hk => Nat.lt_of_lt_of_le (H.out.2.1 k hk) k1.size, H.out.2.2⟩)
           go_must (have K := Lib.hid (K.out.trans k1 (by simp)))
           go_must (have hcx := P.out.cell)
           go_must (clear k1))
        | (go_at_call 52
           go_must (refine (turn_any _ r a b HW.out H.out).mono ?_)
           go_must (rintro e w2 ⟨sl, rfl, hS⟩)
           go_must (rw [EY.out] at hS ⊢)
           go_must (have B := Lib.hid (B.out.kept (LV.kept hS) (by simp)))
           go_must (have S := Lib.hid (LV.wide hS K.out))
           go_must (obtain ⟨A3, m3, c3, rfl⟩ := BkV.form S.out)
           go_must (clear hS hcx))
        | ((with_reducible show wpList _ _ _ ({ dst := none, op := Op.store 29 (.tmp 6) (.tmp 22), type := _, pos := _, after := _, guard := _ } :: _) _ _); refine wpList_put (t := 29) rfl 29 (.tmp 6) (.tmp 22) rfl _ (by rfl) (by rfl) (by exact B.out) (by rfl) (by kernel_rfl) (by simp [Value.oneCell']) ?_; intro w9 hb9 hk9; have Hb9 := Lib.hid hb9; have Hk9 := Lib.hid hk9; clear hb9 hk9))
      refine bodyPost_ret (results_cell1 (t := 29) Try.results21 (by rfl) Hb9.out _ Try.underlying29 rfl (by kernel_rfl)) rfl ?_
      rw [HE.out, HR.out]
      exact ⟨_, rfl, BkV.far S.out Hk9.out B.out (by decide) (by omega)⟩
set_option maxHeartbeats 6400000 in
set_option maxRecDepth 100000 in
theorem rMigrate_any (w : World) {G : List Nat} {A : Option Addr} {m c : Nat} (r : RecD) (a b : Int) (h : SmallB w G A m c r.backs) :
    Calls Try.prog 22 #[.agg #[.int .i64 r.kind, .int .u32 (r.tup.src.toNat : Nat), .int .u32 (r.tup.dst.toNat : Nat), .int .i64 r.tup.proto, .int .i64 r.tup.sport, .int .i64 r.tup.dport, .int .i64 r.fb, .int .i64 r.fg, .int .i64 r.fs, .int .i64 r.gen, .slice A m c, .int .i64 r.back, .int .i64 r.until_, .int .i64 r.count], .int .i64 a, .int .i64 b] w fun e w' => ∃ sl, e = .returned (.tuple #[.agg #[.int .i64 (migR r a b).kind, .int .u32 ((migR r a b).tup.src.toNat : Nat), .int .u32 ((migR r a b).tup.dst.toNat : Nat), .int .i64 (migR r a b).tup.proto, .int .i64 (migR r a b).tup.sport, .int .i64 (migR r a b).tup.dport, .int .i64 (migR r a b).fb, .int .i64 (migR r a b).fg, .int .i64 (migR r a b).fs, .int .i64 (migR r a b).gen, sl, .int .i64 (migR r a b).back, .int .i64 (migR r a b).until_, .int .i64 (migR r a b).count], .int .i64 (migE r a b)]) ∧ BkV w w' sl (migR r a b).backs := by
  have hk0 : Kept [] w ((w.alloc (.cells #[.int .i64 r.kind, .int .u32 (r.tup.src.toNat : Nat), .int .u32 (r.tup.dst.toNat : Nat), .int .i64 r.tup.proto, .int .i64 r.tup.sport, .int .i64 r.tup.dport, .int .i64 r.fb, .int .i64 r.fg, .int .i64 r.fs, .int .i64 r.gen, .slice A m c, .int .i64 r.back, .int .i64 r.until_, .int .i64 r.count] 29)).alloc (.cells #[.int .i64 0, .int .u32 0, .int .u32 0, .int .i64 0, .int .i64 0, .int .i64 0, .int .i64 0, .int .i64 0, .int .i64 0, .int .i64 0, .slice none 0 0, .int .i64 0, .int .i64 0, .int .i64 0] 29)) := by (repeat (first | exact Kept.refl _ _ | apply Kept.alloc | apply Kept.drew))
  have P := Lib.hid (show Blk ((w.alloc (.cells #[.int .i64 r.kind, .int .u32 (r.tup.src.toNat : Nat), .int .u32 (r.tup.dst.toNat : Nat), .int .i64 r.tup.proto, .int .i64 r.tup.sport, .int .i64 r.tup.dport, .int .i64 r.fb, .int .i64 r.fg, .int .i64 r.fs, .int .i64 r.gen, .slice A m c, .int .i64 r.back, .int .i64 r.until_, .int .i64 r.count] 29)).alloc (.cells #[.int .i64 0, .int .u32 0, .int .u32 0, .int .i64 0, .int .i64 0, .int .i64 0, .int .i64 0, .int .i64 0, .int .i64 0, .int .i64 0, .slice none 0 0, .int .i64 0, .int .i64 0, .int .i64 0] 29)) w.heap.size 29 #[.int .i64 r.kind, .int .u32 (r.tup.src.toNat : Nat), .int .u32 (r.tup.dst.toNat : Nat), .int .i64 r.tup.proto, .int .i64 r.tup.sport, .int .i64 r.tup.dport, .int .i64 r.fb, .int .i64 r.fg, .int .i64 r.fs, .int .i64 r.gen, .slice A m c, .int .i64 r.back, .int .i64 r.until_, .int .i64 r.count] from by (repeat (first | (apply Blk.new'; simp; done) | apply Blk.alloc | apply Blk.drew)))
  have B := Lib.hid (show Blk ((w.alloc (.cells #[.int .i64 r.kind, .int .u32 (r.tup.src.toNat : Nat), .int .u32 (r.tup.dst.toNat : Nat), .int .i64 r.tup.proto, .int .i64 r.tup.sport, .int .i64 r.tup.dport, .int .i64 r.fb, .int .i64 r.fg, .int .i64 r.fs, .int .i64 r.gen, .slice A m c, .int .i64 r.back, .int .i64 r.until_, .int .i64 r.count] 29)).alloc (.cells #[.int .i64 0, .int .u32 0, .int .u32 0, .int .i64 0, .int .i64 0, .int .i64 0, .int .i64 0, .int .i64 0, .int .i64 0, .int .i64 0, .slice none 0 0, .int .i64 0, .int .i64 0, .int .i64 0] 29)) (w.heap.size + 1) 29 #[.int .i64 0, .int .u32 0, .int .u32 0, .int .i64 0, .int .i64 0, .int .i64 0, .int .i64 0, .int .i64 0, .int .i64 0, .int .i64 0, .slice none 0 0, .int .i64 0, .int .i64 0, .int .i64 0] from by (repeat (first | (apply Blk.new'; simp; done) | apply Blk.alloc | apply Blk.drew)))
  have H : Hid (SmallB ((w.alloc (.cells #[.int .i64 r.kind, .int .u32 (r.tup.src.toNat : Nat), .int .u32 (r.tup.dst.toNat : Nat), .int .i64 r.tup.proto, .int .i64 r.tup.sport, .int .i64 r.tup.dport, .int .i64 r.fb, .int .i64 r.fg, .int .i64 r.fs, .int .i64 r.gen, .slice A m c, .int .i64 r.back, .int .i64 r.until_, .int .i64 r.count] 29)).alloc (.cells #[.int .i64 0, .int .u32 0, .int .u32 0, .int .i64 0, .int .i64 0, .int .i64 0, .int .i64 0, .int .i64 0, .int .i64 0, .int .i64 0, .slice none 0 0, .int .i64 0, .int .i64 0, .int .i64 0] 29)) G A m c r.backs) := Lib.hid ⟨BkArr.kept h.1 hk0 (by simp), fun k hk => Nat.lt_of_lt_of_le (h.2.1 k hk) hk0.size, h.2.2⟩
  have K := Lib.hid hk0
  clear h hk0
  have hways : (verB a = false ∧ waysB a b = false) ∨ (verB a = true ∧ verB b = false ∧ waysB a b = false) ∨ (verB a = true ∧ verB b = true ∧ b < a ∧ waysB a b = false) ∨ (verB a = true ∧ verB b = true ∧ ¬ b < a ∧ waysB a b = true) := by
    simp only [verB, waysB, Bool.and_eq_true, Bool.and_eq_false_iff, decide_eq_true_eq, decide_eq_false_iff_not]; omega
  rcases hways with ⟨v1, hw⟩ | ⟨v1, v2, hw⟩ | ⟨v1, v2, q1, hw⟩ | ⟨v1, v2, q1, hw⟩
  · have HE := Lib.hid (show migE r a b = 10 by simp [migE, hw])
    have HR := Lib.hid (show migR r a b = default by simp [migR, hw])
    clear hw
    go_enter Try.func22, Try.ntmps22
    go_wp2_with (first
      | (go_at_call 40
         go_must (refine (rVersion_any _ _).mono ?_)
         go_must (rintro e w' ⟨rfl, rfl⟩)
         go_must (first | rw [v1] | rw [v2]))
      | ((with_reducible show wpList _ _ _ ({ dst := none, op := Op.store 29 (.tmp 6) (.tmp 21), type := _, pos := _, after := _, guard := _ } :: _) _ _); refine wpList_put (t := 29) rfl 29 (.tmp 6) (.tmp 21) rfl _ (by rfl) (by rfl) (by exact B.out) (by rfl) (by kernel_rfl) (by simp [Value.oneCell']) ?_; intro w9 hb9 hk9; have Hb9 := Lib.hid hb9; have Hk9 := Lib.hid hk9; clear hb9 hk9))
    refine bodyPost_ret (results_cell1 (t := 29) Try.results22 (by rfl) Hb9.out _ Try.underlying29 rfl (by kernel_rfl)) rfl ?_
    rw [HE.out, HR.out]
    exact ⟨_, rfl, LV.nil (K.out.trans Hk9.out (fun i hi => .inr (by simp at hi; omega)))⟩
  · have HE := Lib.hid (show migE r a b = 10 by simp [migE, hw])
    have HR := Lib.hid (show migR r a b = default by simp [migR, hw])
    clear hw
    go_enter Try.func22, Try.ntmps22
    go_wp2_with (first
      | (go_at_call 40
         go_must (refine (rVersion_any _ _).mono ?_)
         go_must (rintro e w' ⟨rfl, rfl⟩)
         go_must (first | rw [v1] | rw [v2]))
      | ((with_reducible show wpList _ _ _ ({ dst := none, op := Op.store 29 (.tmp 6) (.tmp 21), type := _, pos := _, after := _, guard := _ } :: _) _ _); refine wpList_put (t := 29) rfl 29 (.tmp 6) (.tmp 21) rfl _ (by rfl) (by rfl) (by exact B.out) (by rfl) (by kernel_rfl) (by simp [Value.oneCell']) ?_; intro w9 hb9 hk9; have Hb9 := Lib.hid hb9; have Hk9 := Lib.hid hk9; clear hb9 hk9))
    refine bodyPost_ret (results_cell1 (t := 29) Try.results22 (by rfl) Hb9.out _ Try.underlying29 rfl (by kernel_rfl)) rfl ?_
    rw [HE.out, HR.out]
    exact ⟨_, rfl, LV.nil (K.out.trans Hk9.out (fun i hi => .inr (by simp at hi; omega)))⟩
  · have HE := Lib.hid (show migE r a b = 10 by simp [migE, hw])
    have HR := Lib.hid (show migR r a b = default by simp [migR, hw])
    clear hw
    go_enter Try.func22, Try.ntmps22
    go_wp2_with (first
      | (go_at_call 40
         go_must (refine (rVersion_any _ _).mono ?_)
         go_must (rintro e w' ⟨rfl, rfl⟩)
         go_must (first | rw [v1] | rw [v2]))
      | ((with_reducible show wpList _ _ _ ({ dst := none, op := Op.store 29 (.tmp 6) (.tmp 21), type := _, pos := _, after := _, guard := _ } :: _) _ _); refine wpList_put (t := 29) rfl 29 (.tmp 6) (.tmp 21) rfl _ (by rfl) (by rfl) (by exact B.out) (by rfl) (by kernel_rfl) (by simp [Value.oneCell']) ?_; intro w9 hb9 hk9; have Hb9 := Lib.hid hb9; have Hk9 := Lib.hid hk9; clear hb9 hk9))
    refine bodyPost_ret (results_cell1 (t := 29) Try.results22 (by rfl) Hb9.out _ Try.underlying29 rfl (by kernel_rfl)) rfl ?_
    rw [HE.out, HR.out]
    exact ⟨_, rfl, LV.nil (K.out.trans Hk9.out (fun i hi => .inr (by simp at hi; omega)))⟩
  · cases dm : mayR r
    · have HE := Lib.hid (show migE r a b = 1 by simp [migE, hw, dm])
      have HR := Lib.hid (show migR r a b = default by simp [migR, dm])
      clear hw
      go_enter Try.func22, Try.ntmps22
      go_wp2_with (first
        | (go_at_call 40
           go_must (refine (rVersion_any _ _).mono ?_)
           go_must (rintro e w' ⟨rfl, rfl⟩)
           go_must (first | rw [v1] | rw [v2]))
        | (go_at_call 31
           go_must (refine (rMay_any _ r H.out).mono ?_)
           go_must (rintro e w1 ⟨rfl, k1⟩)
           go_must (rw [dm])
           go_must (have P := Lib.hid (P.out.kept k1 (by simp)))
           go_must (have B := Lib.hid (B.out.kept k1 (by simp)))
           go_must (have H : Hid (SmallB w1 G A m c r.backs) := Lib.hid ⟨BkArr.kept H.out.1 k1 (by simp), fun k hk => Nat.lt_of_lt_of_le (H.out.2.1 k hk) k1.size, H.out.2.2⟩)
           go_must (have K := Lib.hid (K.out.trans k1 (by simp)))
           go_must (have hcx := P.out.cell)
           go_must (clear k1))
        | ((with_reducible show wpList _ _ _ ({ dst := none, op := Op.store 29 (.tmp 6) (.tmp 25), type := _, pos := _, after := _, guard := _ } :: _) _ _); refine wpList_put (t := 29) rfl 29 (.tmp 6) (.tmp 25) rfl _ (by rfl) (by rfl) (by exact B.out) (by rfl) (by kernel_rfl) (by simp [Value.oneCell']) ?_; intro w9 hb9 hk9; have Hb9 := Lib.hid hb9; have Hk9 := Lib.hid hk9; clear hb9 hk9))
      refine bodyPost_ret (results_cell1 (t := 29) Try.results22 (by rfl) Hb9.out _ Try.underlying29 rfl (by kernel_rfl)) rfl ?_
      rw [HE.out, HR.out]
      exact ⟨_, rfl, LV.nil (K.out.trans Hk9.out (fun i hi => .inr (by simp at hi; omega)))⟩
    · have HE := Lib.hid (show migE r a b = 0 by simp [migE, hw, dm])
      obtain ⟨p, hp⟩ : ∃ p, inR r a = p := ⟨_, rfl⟩
      have EP := Lib.hid hp
      have hr : migR r a b = migP p a b := by simp [migR, hw, dm, hp]
      have hwb : 1 ≤ a ∧ a ≤ b ∧ b ≤ 3 := by simpa [waysB] using hw
      have hc : p.kind ≠ 1 ∨ (p.kind = 1 ∧ a = 1 ∧ b = 1) ∨ (p.kind = 1 ∧ a = 1 ∧ b = 2) ∨ (p.kind = 1 ∧ a = 1 ∧ b = 3) ∨ (p.kind = 1 ∧ a = 2 ∧ b = 2) ∨ (p.kind = 1 ∧ a = 2 ∧ b = 3) ∨ (p.kind = 1 ∧ a = 3 ∧ b = 3) := by omega
      clear hw hp hwb
      rcases hc with hk | ⟨hk, ha, hb⟩ | ⟨hk, ha, hb⟩ | ⟨hk, ha, hb⟩ | ⟨hk, ha, hb⟩ | ⟨hk, ha, hb⟩ | ⟨hk, ha, hb⟩
      · have HR := Lib.hid (show migR r a b = p by rw [hr, migP, if_neg hk])
        have b1 : (p.kind == 1) = false := by simp [hk]
        clear hr hk
        go_enter Try.func22, Try.ntmps22
        go_wp2_with (first
          | (go_at_call 40
             go_must (refine (rVersion_any _ _).mono ?_)
             go_must (rintro e w' ⟨rfl, rfl⟩)
             go_must (first | rw [v1] | rw [v2]))
          | (go_at_call 31
             go_must (refine (rMay_any _ r H.out).mono ?_)
             go_must (rintro e w1 ⟨rfl, k1⟩)
             go_must (rw [dm])
             go_must (have P := Lib.hid (P.out.kept k1 (by simp)))
             go_must (have B := Lib.hid (B.out.kept k1 (by simp)))
             go_must (have H : Hid (SmallB w1 G A m c r.backs) := Lib.hid ⟨BkArr.kept H.out.1 k1 (by simp), fun k hk => Nat.lt_of_lt_of_le (H.out.2.1 k hk) k1.size, H.out.2.2⟩)
             go_must (have K := Lib.hid (K.out.trans k1 (by simp)))
             go_must (have hcx := P.out.cell)
             go_must (clear k1))
          | (go_at_call 32
             go_must (refine (rIn_any _ r a H.out).mono ?_)
             go_must (rintro e w2 ⟨sl, rfl, hS⟩)
             go_must (rw [EP.out] at hS ⊢)
             go_must (have B := Lib.hid (B.out.kept (LV.kept hS) (by simp)))
             go_must (have P := Lib.hid (P.out.kept (LV.kept hS) (by simp)))
             go_must (have S := Lib.hid (LV.wide hS K.out))
             go_must (obtain ⟨A3, m3, c3, rfl⟩ := BkV.form S.out)
             go_must (have hlt2 := B.out.lt)
             go_must (clear hS hcx))
          | (with_reducible show wpList _ _ _ ({ dst := none, op := Op.store 29 (.tmp 3) (.tmp 28), type := _, pos := _, after := _, guard := _ } :: _) _ _
             go_must (refine wpList_put (t := 29) rfl 29 (.tmp 3) (.tmp 28) rfl _ (by rfl) (by rfl) P.out (by rfl) (by kernel_rfl) (by simp [Value.oneCell']) ?_)
             go_must (intro w3 h1 k1)
             go_must (have S := Lib.hid (BkV.far S.out k1 P.out (by decide) (by omega)))
             go_must (have P := Lib.hid (show Blk w3 w.heap.size 29 #[.int .i64 p.kind, .int .u32 (p.tup.src.toNat : Nat), .int .u32 (p.tup.dst.toNat : Nat), .int .i64 p.tup.proto, .int .i64 p.tup.sport, .int .i64 p.tup.dport, .int .i64 p.fb, .int .i64 p.fg, .int .i64 p.fs, .int .i64 p.gen, .slice A3 m3 c3, .int .i64 p.back, .int .i64 p.until_, .int .i64 p.count] from h1))
             go_must (have B := Lib.hid (B.out.kept k1 (by simp)))
             go_must (clear h1 k1)
             go_must (have hcx := P.out.cell))
          | ((with_reducible show wpList _ _ _ ({ dst := none, op := Op.store 29 (.tmp 6) (.tmp 55), type := _, pos := _, after := _, guard := _ } :: _) _ _); refine wpList_put (t := 29) rfl 29 (.tmp 6) (.tmp 55) rfl _ (by rfl) (by rfl) (by exact B.out) (by rfl) (by kernel_rfl) (by simp [Value.oneCell']) ?_; intro w9 hb9 hk9; have Hb9 := Lib.hid hb9; have Hk9 := Lib.hid hk9; clear hb9 hk9))
        refine bodyPost_ret (results_cell1 (t := 29) Try.results22 (by rfl) Hb9.out _ Try.underlying29 rfl (by kernel_rfl)) rfl ?_
        rw [HE.out, HR.out]
        exact ⟨_, rfl, BkV.far S.out Hk9.out B.out (by decide) (by omega)⟩
      · have HR := Lib.hid (show migR r a b = { p with fg := p.fg, fs := p.fs } by rw [hr, migP, if_pos hk, ha, hb]; simp)
        have b1 : (p.kind == 1) = true := by simp [hk]
        have a1 : (a == 1) = true := by simp [ha]
        have a2 : a ≤ 2 := by omega
        have b2 : ¬ 2 ≤ b := by omega
        have b3 : (b == 3) = false := by simp [hb]
        clear hr hk ha hb
        go_enter Try.func22, Try.ntmps22
        go_wp2_with (first
          | (go_at_call 40
             go_must (refine (rVersion_any _ _).mono ?_)
             go_must (rintro e w' ⟨rfl, rfl⟩)
             go_must (first | rw [v1] | rw [v2]))
          | (go_at_call 31
             go_must (refine (rMay_any _ r H.out).mono ?_)
             go_must (rintro e w1 ⟨rfl, k1⟩)
             go_must (rw [dm])
             go_must (have P := Lib.hid (P.out.kept k1 (by simp)))
             go_must (have B := Lib.hid (B.out.kept k1 (by simp)))
             go_must (have H : Hid (SmallB w1 G A m c r.backs) := Lib.hid ⟨BkArr.kept H.out.1 k1 (by simp), fun k hk => Nat.lt_of_lt_of_le (H.out.2.1 k hk) k1.size, H.out.2.2⟩)
             go_must (have K := Lib.hid (K.out.trans k1 (by simp)))
             go_must (have hcx := P.out.cell)
             go_must (clear k1))
          | (go_at_call 32
             go_must (refine (rIn_any _ r a H.out).mono ?_)
             go_must (rintro e w2 ⟨sl, rfl, hS⟩)
             go_must (rw [EP.out] at hS ⊢)
             go_must (have B := Lib.hid (B.out.kept (LV.kept hS) (by simp)))
             go_must (have P := Lib.hid (P.out.kept (LV.kept hS) (by simp)))
             go_must (have S := Lib.hid (LV.wide hS K.out))
             go_must (obtain ⟨A3, m3, c3, rfl⟩ := BkV.form S.out)
             go_must (have hlt2 := B.out.lt)
             go_must (clear hS hcx))
          | (with_reducible show wpList _ _ _ ({ dst := none, op := Op.store 29 (.tmp 3) (.tmp 28), type := _, pos := _, after := _, guard := _ } :: _) _ _
             go_must (refine wpList_put (t := 29) rfl 29 (.tmp 3) (.tmp 28) rfl _ (by rfl) (by rfl) P.out (by rfl) (by kernel_rfl) (by simp [Value.oneCell']) ?_)
             go_must (intro w3 h1 k1)
             go_must (have S := Lib.hid (BkV.far S.out k1 P.out (by decide) (by omega)))
             go_must (have P := Lib.hid (show Blk w3 w.heap.size 29 #[.int .i64 p.kind, .int .u32 (p.tup.src.toNat : Nat), .int .u32 (p.tup.dst.toNat : Nat), .int .i64 p.tup.proto, .int .i64 p.tup.sport, .int .i64 p.tup.dport, .int .i64 p.fb, .int .i64 p.fg, .int .i64 p.fs, .int .i64 p.gen, .slice A3 m3 c3, .int .i64 p.back, .int .i64 p.until_, .int .i64 p.count] from h1))
             go_must (have B := Lib.hid (B.out.kept k1 (by simp)))
             go_must (clear h1 k1)
             go_must (have hcx := P.out.cell))
          | ((with_reducible show wpList _ _ _ ({ dst := none, op := Op.store 29 (.tmp 6) (.tmp 55), type := _, pos := _, after := _, guard := _ } :: _) _ _); refine wpList_put (t := 29) rfl 29 (.tmp 6) (.tmp 55) rfl _ (by rfl) (by rfl) (by exact B.out) (by rfl) (by kernel_rfl) (by simp [Value.oneCell']) ?_; intro w9 hb9 hk9; have Hb9 := Lib.hid hb9; have Hk9 := Lib.hid hk9; clear hb9 hk9))
        refine bodyPost_ret (results_cell1 (t := 29) Try.results22 (by rfl) Hb9.out _ Try.underlying29 rfl (by kernel_rfl)) rfl ?_
        rw [HE.out, HR.out]
        exact ⟨_, rfl, BkV.far S.out Hk9.out B.out (by decide) (by omega)⟩
      · have HR := Lib.hid (show migR r a b = { p with fg := 1, fs := p.fs } by rw [hr, migP, if_pos hk, ha, hb]; simp)
        have b1 : (p.kind == 1) = true := by simp [hk]
        have a1 : (a == 1) = true := by simp [ha]
        have a2 : a ≤ 2 := by omega
        have b2 : 2 ≤ b := by omega
        have b3 : (b == 3) = false := by simp [hb]
        clear hr hk ha hb
        go_enter Try.func22, Try.ntmps22
        go_wp2_with (first
          | (go_at_call 40
             go_must (refine (rVersion_any _ _).mono ?_)
             go_must (rintro e w' ⟨rfl, rfl⟩)
             go_must (first | rw [v1] | rw [v2]))
          | (go_at_call 31
             go_must (refine (rMay_any _ r H.out).mono ?_)
             go_must (rintro e w1 ⟨rfl, k1⟩)
             go_must (rw [dm])
             go_must (have P := Lib.hid (P.out.kept k1 (by simp)))
             go_must (have B := Lib.hid (B.out.kept k1 (by simp)))
             go_must (have H : Hid (SmallB w1 G A m c r.backs) := Lib.hid ⟨BkArr.kept H.out.1 k1 (by simp), fun k hk => Nat.lt_of_lt_of_le (H.out.2.1 k hk) k1.size, H.out.2.2⟩)
             go_must (have K := Lib.hid (K.out.trans k1 (by simp)))
             go_must (have hcx := P.out.cell)
             go_must (clear k1))
          | (go_at_call 32
             go_must (refine (rIn_any _ r a H.out).mono ?_)
             go_must (rintro e w2 ⟨sl, rfl, hS⟩)
             go_must (rw [EP.out] at hS ⊢)
             go_must (have B := Lib.hid (B.out.kept (LV.kept hS) (by simp)))
             go_must (have P := Lib.hid (P.out.kept (LV.kept hS) (by simp)))
             go_must (have S := Lib.hid (LV.wide hS K.out))
             go_must (obtain ⟨A3, m3, c3, rfl⟩ := BkV.form S.out)
             go_must (have hlt2 := B.out.lt)
             go_must (clear hS hcx))
          | (with_reducible show wpList _ _ _ ({ dst := none, op := Op.store 29 (.tmp 3) (.tmp 28), type := _, pos := _, after := _, guard := _ } :: _) _ _
             go_must (refine wpList_put (t := 29) rfl 29 (.tmp 3) (.tmp 28) rfl _ (by rfl) (by rfl) P.out (by rfl) (by kernel_rfl) (by simp [Value.oneCell']) ?_)
             go_must (intro w3 h1 k1)
             go_must (have S := Lib.hid (BkV.far S.out k1 P.out (by decide) (by omega)))
             go_must (have P := Lib.hid (show Blk w3 w.heap.size 29 #[.int .i64 p.kind, .int .u32 (p.tup.src.toNat : Nat), .int .u32 (p.tup.dst.toNat : Nat), .int .i64 p.tup.proto, .int .i64 p.tup.sport, .int .i64 p.tup.dport, .int .i64 p.fb, .int .i64 p.fg, .int .i64 p.fs, .int .i64 p.gen, .slice A3 m3 c3, .int .i64 p.back, .int .i64 p.until_, .int .i64 p.count] from h1))
             go_must (have B := Lib.hid (B.out.kept k1 (by simp)))
             go_must (clear h1 k1)
             go_must (have hcx := P.out.cell))
          | (with_reducible show wpList _ _ _ ({ dst := none, op := Op.store 3 (.tmp 41) _, type := _, pos := _, after := _, guard := _ } :: _) _ _
             go_must (refine wpList_putAt (t := 29) (v := .int .i64 1) rfl 3 (.tmp 41) _ rfl (by rfl) (by rfl) P.out (by simp [Value.cells]) (by kernel_rfl) (by simp [Value.cells, Value.oneCell']) ?_)
             go_must (intro w4 h1 k1)
             go_must (have S := Lib.hid (BkV.far S.out k1 P.out (by decide) (by omega)))
             go_must (have P := Lib.hid (show Blk w4 w.heap.size 29 #[.int .i64 p.kind, .int .u32 (p.tup.src.toNat : Nat), .int .u32 (p.tup.dst.toNat : Nat), .int .i64 p.tup.proto, .int .i64 p.tup.sport, .int .i64 p.tup.dport, .int .i64 p.fb, .int .i64 1, .int .i64 p.fs, .int .i64 p.gen, .slice A3 m3 c3, .int .i64 p.back, .int .i64 p.until_, .int .i64 p.count] from h1))
             go_must (have B := Lib.hid (B.out.kept k1 (by simp)))
             go_must (clear h1 k1 hcx)
             go_must (have hcx := P.out.cell))
          | ((with_reducible show wpList _ _ _ ({ dst := none, op := Op.store 29 (.tmp 6) (.tmp 55), type := _, pos := _, after := _, guard := _ } :: _) _ _); refine wpList_put (t := 29) rfl 29 (.tmp 6) (.tmp 55) rfl _ (by rfl) (by rfl) (by exact B.out) (by rfl) (by kernel_rfl) (by simp [Value.oneCell']) ?_; intro w9 hb9 hk9; have Hb9 := Lib.hid hb9; have Hk9 := Lib.hid hk9; clear hb9 hk9))
        refine bodyPost_ret (results_cell1 (t := 29) Try.results22 (by rfl) Hb9.out _ Try.underlying29 rfl (by kernel_rfl)) rfl ?_
        rw [HE.out, HR.out]
        exact ⟨_, rfl, BkV.far S.out Hk9.out B.out (by decide) (by omega)⟩
      · have HR := Lib.hid (show migR r a b = { p with fg := 1, fs := 0 } by rw [hr, migP, if_pos hk, ha, hb]; simp)
        have b1 : (p.kind == 1) = true := by simp [hk]
        have a1 : (a == 1) = true := by simp [ha]
        have a2 : a ≤ 2 := by omega
        have b2 : 2 ≤ b := by omega
        have b3 : (b == 3) = true := by simp [hb]
        clear hr hk ha hb
        go_enter Try.func22, Try.ntmps22
        go_wp2_with (first
          | (go_at_call 40
             go_must (refine (rVersion_any _ _).mono ?_)
             go_must (rintro e w' ⟨rfl, rfl⟩)
             go_must (first | rw [v1] | rw [v2]))
          | (go_at_call 31
             go_must (refine (rMay_any _ r H.out).mono ?_)
             go_must (rintro e w1 ⟨rfl, k1⟩)
             go_must (rw [dm])
             go_must (have P := Lib.hid (P.out.kept k1 (by simp)))
             go_must (have B := Lib.hid (B.out.kept k1 (by simp)))
             go_must (have H : Hid (SmallB w1 G A m c r.backs) := Lib.hid ⟨BkArr.kept H.out.1 k1 (by simp), fun k hk => Nat.lt_of_lt_of_le (H.out.2.1 k hk) k1.size, H.out.2.2⟩)
             go_must (have K := Lib.hid (K.out.trans k1 (by simp)))
             go_must (have hcx := P.out.cell)
             go_must (clear k1))
          | (go_at_call 32
             go_must (refine (rIn_any _ r a H.out).mono ?_)
             go_must (rintro e w2 ⟨sl, rfl, hS⟩)
             go_must (rw [EP.out] at hS ⊢)
             go_must (have B := Lib.hid (B.out.kept (LV.kept hS) (by simp)))
             go_must (have P := Lib.hid (P.out.kept (LV.kept hS) (by simp)))
             go_must (have S := Lib.hid (LV.wide hS K.out))
             go_must (obtain ⟨A3, m3, c3, rfl⟩ := BkV.form S.out)
             go_must (have hlt2 := B.out.lt)
             go_must (clear hS hcx))
          | (with_reducible show wpList _ _ _ ({ dst := none, op := Op.store 29 (.tmp 3) (.tmp 28), type := _, pos := _, after := _, guard := _ } :: _) _ _
             go_must (refine wpList_put (t := 29) rfl 29 (.tmp 3) (.tmp 28) rfl _ (by rfl) (by rfl) P.out (by rfl) (by kernel_rfl) (by simp [Value.oneCell']) ?_)
             go_must (intro w3 h1 k1)
             go_must (have S := Lib.hid (BkV.far S.out k1 P.out (by decide) (by omega)))
             go_must (have P := Lib.hid (show Blk w3 w.heap.size 29 #[.int .i64 p.kind, .int .u32 (p.tup.src.toNat : Nat), .int .u32 (p.tup.dst.toNat : Nat), .int .i64 p.tup.proto, .int .i64 p.tup.sport, .int .i64 p.tup.dport, .int .i64 p.fb, .int .i64 p.fg, .int .i64 p.fs, .int .i64 p.gen, .slice A3 m3 c3, .int .i64 p.back, .int .i64 p.until_, .int .i64 p.count] from h1))
             go_must (have B := Lib.hid (B.out.kept k1 (by simp)))
             go_must (clear h1 k1)
             go_must (have hcx := P.out.cell))
          | (with_reducible show wpList _ _ _ ({ dst := none, op := Op.store 3 (.tmp 41) _, type := _, pos := _, after := _, guard := _ } :: _) _ _
             go_must (refine wpList_putAt (t := 29) (v := .int .i64 1) rfl 3 (.tmp 41) _ rfl (by rfl) (by rfl) P.out (by simp [Value.cells]) (by kernel_rfl) (by simp [Value.cells, Value.oneCell']) ?_)
             go_must (intro w4 h1 k1)
             go_must (have S := Lib.hid (BkV.far S.out k1 P.out (by decide) (by omega)))
             go_must (have P := Lib.hid (show Blk w4 w.heap.size 29 #[.int .i64 p.kind, .int .u32 (p.tup.src.toNat : Nat), .int .u32 (p.tup.dst.toNat : Nat), .int .i64 p.tup.proto, .int .i64 p.tup.sport, .int .i64 p.tup.dport, .int .i64 p.fb, .int .i64 1, .int .i64 p.fs, .int .i64 p.gen, .slice A3 m3 c3, .int .i64 p.back, .int .i64 p.until_, .int .i64 p.count] from h1))
             go_must (have B := Lib.hid (B.out.kept k1 (by simp)))
             go_must (clear h1 k1 hcx)
             go_must (have hcx := P.out.cell))
          | (with_reducible show wpList _ _ _ ({ dst := none, op := Op.store 2 (.tmp 54) _, type := _, pos := _, after := _, guard := _ } :: _) _ _
             go_must (refine wpList_putAt (t := 29) (v := .int .i64 0) rfl 2 (.tmp 54) _ rfl (by rfl) (by rfl) P.out (by simp [Value.cells]) (by kernel_rfl) (by simp [Value.cells, Value.oneCell']) ?_)
             go_must (intro w5 h1 k1)
             go_must (have S := Lib.hid (BkV.far S.out k1 P.out (by decide) (by omega)))
             go_must (have P := Lib.hid (show Blk w5 w.heap.size 29 #[.int .i64 p.kind, .int .u32 (p.tup.src.toNat : Nat), .int .u32 (p.tup.dst.toNat : Nat), .int .i64 p.tup.proto, .int .i64 p.tup.sport, .int .i64 p.tup.dport, .int .i64 p.fb, .int .i64 1, .int .i64 0, .int .i64 p.gen, .slice A3 m3 c3, .int .i64 p.back, .int .i64 p.until_, .int .i64 p.count] from h1))
             go_must (have B := Lib.hid (B.out.kept k1 (by simp)))
             go_must (clear h1 k1 hcx)
             go_must (have hcx := P.out.cell))
          | ((with_reducible show wpList _ _ _ ({ dst := none, op := Op.store 29 (.tmp 6) (.tmp 55), type := _, pos := _, after := _, guard := _ } :: _) _ _); refine wpList_put (t := 29) rfl 29 (.tmp 6) (.tmp 55) rfl _ (by rfl) (by rfl) (by exact B.out) (by rfl) (by kernel_rfl) (by simp [Value.oneCell']) ?_; intro w9 hb9 hk9; have Hb9 := Lib.hid hb9; have Hk9 := Lib.hid hk9; clear hb9 hk9))
        refine bodyPost_ret (results_cell1 (t := 29) Try.results22 (by rfl) Hb9.out _ Try.underlying29 rfl (by kernel_rfl)) rfl ?_
        rw [HE.out, HR.out]
        exact ⟨_, rfl, BkV.far S.out Hk9.out B.out (by decide) (by omega)⟩
      · have HR := Lib.hid (show migR r a b = { p with fg := p.fg, fs := p.fs } by rw [hr, migP, if_pos hk, ha, hb]; simp)
        have b1 : (p.kind == 1) = true := by simp [hk]
        have a1 : (a == 1) = false := by simp [ha]
        have a2 : a ≤ 2 := by omega
        have b2 : 2 ≤ b := by omega
        have b3 : (b == 3) = false := by simp [hb]
        clear hr hk ha hb
        go_enter Try.func22, Try.ntmps22
        go_wp2_with (first
          | (go_at_call 40
             go_must (refine (rVersion_any _ _).mono ?_)
             go_must (rintro e w' ⟨rfl, rfl⟩)
             go_must (first | rw [v1] | rw [v2]))
          | (go_at_call 31
             go_must (refine (rMay_any _ r H.out).mono ?_)
             go_must (rintro e w1 ⟨rfl, k1⟩)
             go_must (rw [dm])
             go_must (have P := Lib.hid (P.out.kept k1 (by simp)))
             go_must (have B := Lib.hid (B.out.kept k1 (by simp)))
             go_must (have H : Hid (SmallB w1 G A m c r.backs) := Lib.hid ⟨BkArr.kept H.out.1 k1 (by simp), fun k hk => Nat.lt_of_lt_of_le (H.out.2.1 k hk) k1.size, H.out.2.2⟩)
             go_must (have K := Lib.hid (K.out.trans k1 (by simp)))
             go_must (have hcx := P.out.cell)
             go_must (clear k1))
          | (go_at_call 32
             go_must (refine (rIn_any _ r a H.out).mono ?_)
             go_must (rintro e w2 ⟨sl, rfl, hS⟩)
             go_must (rw [EP.out] at hS ⊢)
             go_must (have B := Lib.hid (B.out.kept (LV.kept hS) (by simp)))
             go_must (have P := Lib.hid (P.out.kept (LV.kept hS) (by simp)))
             go_must (have S := Lib.hid (LV.wide hS K.out))
             go_must (obtain ⟨A3, m3, c3, rfl⟩ := BkV.form S.out)
             go_must (have hlt2 := B.out.lt)
             go_must (clear hS hcx))
          | (with_reducible show wpList _ _ _ ({ dst := none, op := Op.store 29 (.tmp 3) (.tmp 28), type := _, pos := _, after := _, guard := _ } :: _) _ _
             go_must (refine wpList_put (t := 29) rfl 29 (.tmp 3) (.tmp 28) rfl _ (by rfl) (by rfl) P.out (by rfl) (by kernel_rfl) (by simp [Value.oneCell']) ?_)
             go_must (intro w3 h1 k1)
             go_must (have S := Lib.hid (BkV.far S.out k1 P.out (by decide) (by omega)))
             go_must (have P := Lib.hid (show Blk w3 w.heap.size 29 #[.int .i64 p.kind, .int .u32 (p.tup.src.toNat : Nat), .int .u32 (p.tup.dst.toNat : Nat), .int .i64 p.tup.proto, .int .i64 p.tup.sport, .int .i64 p.tup.dport, .int .i64 p.fb, .int .i64 p.fg, .int .i64 p.fs, .int .i64 p.gen, .slice A3 m3 c3, .int .i64 p.back, .int .i64 p.until_, .int .i64 p.count] from h1))
             go_must (have B := Lib.hid (B.out.kept k1 (by simp)))
             go_must (clear h1 k1)
             go_must (have hcx := P.out.cell))
          | ((with_reducible show wpList _ _ _ ({ dst := none, op := Op.store 29 (.tmp 6) (.tmp 55), type := _, pos := _, after := _, guard := _ } :: _) _ _); refine wpList_put (t := 29) rfl 29 (.tmp 6) (.tmp 55) rfl _ (by rfl) (by rfl) (by exact B.out) (by rfl) (by kernel_rfl) (by simp [Value.oneCell']) ?_; intro w9 hb9 hk9; have Hb9 := Lib.hid hb9; have Hk9 := Lib.hid hk9; clear hb9 hk9))
        refine bodyPost_ret (results_cell1 (t := 29) Try.results22 (by rfl) Hb9.out _ Try.underlying29 rfl (by kernel_rfl)) rfl ?_
        rw [HE.out, HR.out]
        exact ⟨_, rfl, BkV.far S.out Hk9.out B.out (by decide) (by omega)⟩
      · have HR := Lib.hid (show migR r a b = { p with fg := p.fg, fs := 0 } by rw [hr, migP, if_pos hk, ha, hb]; simp)
        have b1 : (p.kind == 1) = true := by simp [hk]
        have a1 : (a == 1) = false := by simp [ha]
        have a2 : a ≤ 2 := by omega
        have b2 : 2 ≤ b := by omega
        have b3 : (b == 3) = true := by simp [hb]
        clear hr hk ha hb
        go_enter Try.func22, Try.ntmps22
        go_wp2_with (first
          | (go_at_call 40
             go_must (refine (rVersion_any _ _).mono ?_)
             go_must (rintro e w' ⟨rfl, rfl⟩)
             go_must (first | rw [v1] | rw [v2]))
          | (go_at_call 31
             go_must (refine (rMay_any _ r H.out).mono ?_)
             go_must (rintro e w1 ⟨rfl, k1⟩)
             go_must (rw [dm])
             go_must (have P := Lib.hid (P.out.kept k1 (by simp)))
             go_must (have B := Lib.hid (B.out.kept k1 (by simp)))
             go_must (have H : Hid (SmallB w1 G A m c r.backs) := Lib.hid ⟨BkArr.kept H.out.1 k1 (by simp), fun k hk => Nat.lt_of_lt_of_le (H.out.2.1 k hk) k1.size, H.out.2.2⟩)
             go_must (have K := Lib.hid (K.out.trans k1 (by simp)))
             go_must (have hcx := P.out.cell)
             go_must (clear k1))
          | (go_at_call 32
             go_must (refine (rIn_any _ r a H.out).mono ?_)
             go_must (rintro e w2 ⟨sl, rfl, hS⟩)
             go_must (rw [EP.out] at hS ⊢)
             go_must (have B := Lib.hid (B.out.kept (LV.kept hS) (by simp)))
             go_must (have P := Lib.hid (P.out.kept (LV.kept hS) (by simp)))
             go_must (have S := Lib.hid (LV.wide hS K.out))
             go_must (obtain ⟨A3, m3, c3, rfl⟩ := BkV.form S.out)
             go_must (have hlt2 := B.out.lt)
             go_must (clear hS hcx))
          | (with_reducible show wpList _ _ _ ({ dst := none, op := Op.store 29 (.tmp 3) (.tmp 28), type := _, pos := _, after := _, guard := _ } :: _) _ _
             go_must (refine wpList_put (t := 29) rfl 29 (.tmp 3) (.tmp 28) rfl _ (by rfl) (by rfl) P.out (by rfl) (by kernel_rfl) (by simp [Value.oneCell']) ?_)
             go_must (intro w3 h1 k1)
             go_must (have S := Lib.hid (BkV.far S.out k1 P.out (by decide) (by omega)))
             go_must (have P := Lib.hid (show Blk w3 w.heap.size 29 #[.int .i64 p.kind, .int .u32 (p.tup.src.toNat : Nat), .int .u32 (p.tup.dst.toNat : Nat), .int .i64 p.tup.proto, .int .i64 p.tup.sport, .int .i64 p.tup.dport, .int .i64 p.fb, .int .i64 p.fg, .int .i64 p.fs, .int .i64 p.gen, .slice A3 m3 c3, .int .i64 p.back, .int .i64 p.until_, .int .i64 p.count] from h1))
             go_must (have B := Lib.hid (B.out.kept k1 (by simp)))
             go_must (clear h1 k1)
             go_must (have hcx := P.out.cell))
          | (with_reducible show wpList _ _ _ ({ dst := none, op := Op.store 2 (.tmp 54) _, type := _, pos := _, after := _, guard := _ } :: _) _ _
             go_must (refine wpList_putAt (t := 29) (v := .int .i64 0) rfl 2 (.tmp 54) _ rfl (by rfl) (by rfl) P.out (by simp [Value.cells]) (by kernel_rfl) (by simp [Value.cells, Value.oneCell']) ?_)
             go_must (intro w5 h1 k1)
             go_must (have S := Lib.hid (BkV.far S.out k1 P.out (by decide) (by omega)))
             go_must (have P := Lib.hid (show Blk w5 w.heap.size 29 #[.int .i64 p.kind, .int .u32 (p.tup.src.toNat : Nat), .int .u32 (p.tup.dst.toNat : Nat), .int .i64 p.tup.proto, .int .i64 p.tup.sport, .int .i64 p.tup.dport, .int .i64 p.fb, .int .i64 p.fg, .int .i64 0, .int .i64 p.gen, .slice A3 m3 c3, .int .i64 p.back, .int .i64 p.until_, .int .i64 p.count] from h1))
             go_must (have B := Lib.hid (B.out.kept k1 (by simp)))
             go_must (clear h1 k1 hcx)
             go_must (have hcx := P.out.cell))
          | ((with_reducible show wpList _ _ _ ({ dst := none, op := Op.store 29 (.tmp 6) (.tmp 55), type := _, pos := _, after := _, guard := _ } :: _) _ _); refine wpList_put (t := 29) rfl 29 (.tmp 6) (.tmp 55) rfl _ (by rfl) (by rfl) (by exact B.out) (by rfl) (by kernel_rfl) (by simp [Value.oneCell']) ?_; intro w9 hb9 hk9; have Hb9 := Lib.hid hb9; have Hk9 := Lib.hid hk9; clear hb9 hk9))
        refine bodyPost_ret (results_cell1 (t := 29) Try.results22 (by rfl) Hb9.out _ Try.underlying29 rfl (by kernel_rfl)) rfl ?_
        rw [HE.out, HR.out]
        exact ⟨_, rfl, BkV.far S.out Hk9.out B.out (by decide) (by omega)⟩
      · have HR := Lib.hid (show migR r a b = { p with fg := p.fg, fs := p.fs } by rw [hr, migP, if_pos hk, ha, hb]; simp)
        have b1 : (p.kind == 1) = true := by simp [hk]
        have a1 : (a == 1) = false := by simp [ha]
        have a2 : ¬ a ≤ 2 := by omega
        have b2 : 2 ≤ b := by omega
        have b3 : (b == 3) = true := by simp [hb]
        clear hr hk ha hb
        go_enter Try.func22, Try.ntmps22
        go_wp2_with (first
          | (go_at_call 40
             go_must (refine (rVersion_any _ _).mono ?_)
             go_must (rintro e w' ⟨rfl, rfl⟩)
             go_must (first | rw [v1] | rw [v2]))
          | (go_at_call 31
             go_must (refine (rMay_any _ r H.out).mono ?_)
             go_must (rintro e w1 ⟨rfl, k1⟩)
             go_must (rw [dm])
             go_must (have P := Lib.hid (P.out.kept k1 (by simp)))
             go_must (have B := Lib.hid (B.out.kept k1 (by simp)))
             go_must (have H : Hid (SmallB w1 G A m c r.backs) := Lib.hid ⟨BkArr.kept H.out.1 k1 (by simp), fun k hk => Nat.lt_of_lt_of_le (H.out.2.1 k hk) k1.size, H.out.2.2⟩)
             go_must (have K := Lib.hid (K.out.trans k1 (by simp)))
             go_must (have hcx := P.out.cell)
             go_must (clear k1))
          | (go_at_call 32
             go_must (refine (rIn_any _ r a H.out).mono ?_)
             go_must (rintro e w2 ⟨sl, rfl, hS⟩)
             go_must (rw [EP.out] at hS ⊢)
             go_must (have B := Lib.hid (B.out.kept (LV.kept hS) (by simp)))
             go_must (have P := Lib.hid (P.out.kept (LV.kept hS) (by simp)))
             go_must (have S := Lib.hid (LV.wide hS K.out))
             go_must (obtain ⟨A3, m3, c3, rfl⟩ := BkV.form S.out)
             go_must (have hlt2 := B.out.lt)
             go_must (clear hS hcx))
          | (with_reducible show wpList _ _ _ ({ dst := none, op := Op.store 29 (.tmp 3) (.tmp 28), type := _, pos := _, after := _, guard := _ } :: _) _ _
             go_must (refine wpList_put (t := 29) rfl 29 (.tmp 3) (.tmp 28) rfl _ (by rfl) (by rfl) P.out (by rfl) (by kernel_rfl) (by simp [Value.oneCell']) ?_)
             go_must (intro w3 h1 k1)
             go_must (have S := Lib.hid (BkV.far S.out k1 P.out (by decide) (by omega)))
             go_must (have P := Lib.hid (show Blk w3 w.heap.size 29 #[.int .i64 p.kind, .int .u32 (p.tup.src.toNat : Nat), .int .u32 (p.tup.dst.toNat : Nat), .int .i64 p.tup.proto, .int .i64 p.tup.sport, .int .i64 p.tup.dport, .int .i64 p.fb, .int .i64 p.fg, .int .i64 p.fs, .int .i64 p.gen, .slice A3 m3 c3, .int .i64 p.back, .int .i64 p.until_, .int .i64 p.count] from h1))
             go_must (have B := Lib.hid (B.out.kept k1 (by simp)))
             go_must (clear h1 k1)
             go_must (have hcx := P.out.cell))
          | ((with_reducible show wpList _ _ _ ({ dst := none, op := Op.store 29 (.tmp 6) (.tmp 55), type := _, pos := _, after := _, guard := _ } :: _) _ _); refine wpList_put (t := 29) rfl 29 (.tmp 6) (.tmp 55) rfl _ (by rfl) (by rfl) (by exact B.out) (by rfl) (by kernel_rfl) (by simp [Value.oneCell']) ?_; intro w9 hb9 hk9; have Hb9 := Lib.hid hb9; have Hk9 := Lib.hid hk9; clear hb9 hk9))
        refine bodyPost_ret (results_cell1 (t := 29) Try.results22 (by rfl) Hb9.out _ Try.underlying29 rfl (by kernel_rfl)) rfl ?_
        rw [HE.out, HR.out]
        exact ⟨_, rfl, BkV.far S.out Hk9.out B.out (by decide) (by omega)⟩
end Go.Proofs.Ytogdpfjbclnlnaa
