
/-
  Contracts of the reference: a tuple's bytes; may a record be; a record's frame.
-/
import Derived.Test.YtogdpfjbclnlnaaRecY
import Derived.Test.YtogdpfjbclnlnaaFrameR
namespace Go.Proofs.Ytogdpfjbclnlnaa
open Go.RowKit Go.ChangeShapes Go.WideShapes Go.Deep
set_option linter.unusedVariables false

theorem Blk.at5 {w : World} {g : Nat} {t : TypeId} {a b c d e : Value} (h : Blk w g t #[a, b, c, d, e]) : w.cell? ⟨g, 0, none⟩ = some a ∧ w.cell? ⟨g, 1, none⟩ = some b ∧ w.cell? ⟨g, 2, none⟩ = some c ∧ w.cell? ⟨g, 3, none⟩ = some d ∧ w.cell? ⟨g, 4, none⟩ = some e :=
  ⟨by simpa using h.cell 0, by simpa using h.cell 1, by simpa using h.cell 2, by simpa using h.cell 3, by simpa using h.cell 4⟩

set_option maxHeartbeats 3200000 in
theorem TupleBytes_any (w : World) (t : TupD) :
    Calls Try.prog 41 #[.agg #[.int .u32 (t.src.toNat : Nat), .int .u32 (t.dst.toNat : Nat), .int .i64 t.proto, .int .i64 t.sport, .int .i64 t.dport]] w fun e w' => ∃ v, e = .returned v ∧ New w 5 1 v 13 (u8s (tupB t)) w' := by
  have Bx := Lib.hid (show Blk (w.alloc (.cells #[.int .u32 (t.src.toNat : Nat), .int .u32 (t.dst.toNat : Nat), .int .i64 t.proto, .int .i64 t.sport, .int .i64 t.dport] 24)).drew w.heap.size 24 #[.int .u32 (t.src.toNat : Nat), .int .u32 (t.dst.toNat : Nat), .int .i64 t.proto, .int .i64 t.sport, .int .i64 t.dport] from by (repeat (first | (apply Blk.new'; simp; done) | apply Blk.alloc | apply Blk.drew)))
  have K0 := Lib.hid (show Kept [] w (w.alloc (.cells #[.int .u32 (t.src.toNat : Nat), .int .u32 (t.dst.toNat : Nat), .int .i64 t.proto, .int .i64 t.sport, .int .i64 t.dport] 24)).drew from by (repeat (first | exact Kept.refl _ _ | apply Kept.alloc | apply Kept.drew)))
  have U1 := Lib.hid (fun w => rU32_any w ((t.src.toNat : Nat) : Int) t.src.toNat rfl t.src.toNat_lt)
  have U2 := Lib.hid (fun w => rU32_any w ((t.dst.toNat : Nat) : Int) t.dst.toNat rfl t.dst.toNat_lt)
  go_enter Try.func41, Try.ntmps41
  go_wp2
  go_region_held3 (fun w' => w'.cell? ⟨w.heap.size, 0, none⟩ = some (.int .u32 (t.src.toNat : Nat)) ∧ w'.cell? ⟨w.heap.size, 1, none⟩ = some (.int .u32 (t.dst.toNat : Nat)))
    (first | exact ⟨Bx.out.at5.1, Bx.out.at5.2.1⟩ | exact ⟨hb3.at5.1, hb3.at5.2.1⟩ | exact ⟨hb2.at5.1, hb2.at5.2.1⟩ | exact ⟨hb1.at5.1, hb1.at5.2.1⟩)
    (first
      | (go_at_call 43
         with_reducible refine (U1.out _).mono ?_
         rintro e w1 ⟨v1, rfl, hn1⟩
         have hb1 := Bx.out.kept hn1.2.1 (by simp)
         have N1 := Lib.hid (hn1.wide K0.out)
         obtain ⟨A1, c1, rfl, -, -⟩ := hn1.1.form
         clear hn1)
      | (go_at_call 43
         with_reducible refine (U2.out _).mono ?_
         rintro e w2 ⟨v2, rfl, hn2⟩
         have hb2 := hb1.kept hn2.2.1 (by simp)
         have N12 := Lib.hid (N1.out.go hn2.2.1)
         have R2 := Lib.hid (RdB.of_own hn2.1)
         obtain ⟨A2, c2, rfl, -, -⟩ := hn2.1.form
         clear hn2)
      | (refine step_app _ rfl (.tmp 6) (.tmp 9) 32 rfl elem_u8 (by rfl) N12.out.1 (by rfl) R2.out.rd (by simp [u8s, beK_len]) (u8s_one _) (by unfold maxLen; omega) (by omega) ?_
         intro v3 w3 ho3 hk3 hr3
         have hb3 := hb2.kept hk3 (N12.out.1.ne_blk hb2 (by decide))
         have N3 := Lib.hid ((N12.out.app ho3 hk3 hr3).cast (show 4 + 4 = 8 from rfl) rfl)
         obtain ⟨A3, c3, rfl, -, -⟩ := ho3.form
         clear ho3 hk3 hr3))
  have B3 := Lib.hid hb3
  have hc3 := hb3.cell
  clear hb1 hb2 hb3
  have U3 := Lib.hid (fun w => rU16_any w t.sport)
  have U4 := Lib.hid (fun w => rU16_any w t.dport)
  go_wp2_with (at_builtin
               refine wpList_app _ rfl (.tmp 11) (.tmp 15) 32 rfl elem_u8 (by rfl) (N3.out.go ((Kept.refl [] _).alloc _)).1 (by rfl) (Rd.laid _ [.int .u8 (t.proto % 256)] _) rfl (by simp [Value.oneCell']) (by unfold maxLen; omega) (by omega) ?_
               intro v5 w5 ho5 hk5 hr5
               rw [← be1 t.proto] at ho5
               have hn5 := ((N3.out.go ((Kept.refl [] w3).alloc (.cells #[.int .u8 (t.proto % 256)] 5))).app ho5 hk5 hr5)
               have hb5 := (B3.out.alloc (.cells #[.int .u8 (t.proto % 256)] 5)).kept hk5 ((N3.out.go ((Kept.refl [] w3).alloc (.cells #[.int .u8 (t.proto % 256)] 5))).1.ne_blk (B3.out.alloc _) (by decide))
               have N5 := Lib.hid (hn5.cast (show 8 + 1 = 9 from rfl) rfl)
               have B5 := Lib.hid hb5
               have hc5 := hb5.cell
               obtain ⟨A5, c5, rfl, -, -⟩ := ho5.form
               clear ho5 hk5 hr5 hn5 hb5 hc3)
  clear hc5
  go_region_held3 (fun w' => w'.cell? ⟨w.heap.size, 3, none⟩ = some (.int .i64 t.sport) ∧ w'.cell? ⟨w.heap.size, 4, none⟩ = some (.int .i64 t.dport))
    (first | exact ⟨B5.out.drew.at5.2.2.2.1, B5.out.drew.at5.2.2.2.2⟩ | exact ⟨hb9.at5.2.2.2.1, hb9.at5.2.2.2.2⟩ | exact ⟨hb8.at5.2.2.2.1, hb8.at5.2.2.2.2⟩ | exact ⟨hb7.at5.2.2.2.1, hb7.at5.2.2.2.2⟩ | exact ⟨hb6.at5.2.2.2.1, hb6.at5.2.2.2.2⟩)
    (first
      | (go_at_call 42
         with_reducible refine (U3.out _).mono ?_
         rintro e w6 ⟨v6, rfl, hn6⟩
         have hb6 := B5.out.drew.kept hn6.2.1 (by simp)
         have N6 := Lib.hid ((N5.out.go ((Kept.refl [] w5).drew)).go hn6.2.1)
         have R6 := Lib.hid (RdB.of_own hn6.1)
         obtain ⟨A6, c6, rfl, -, -⟩ := hn6.1.form
         clear hn6)
      | (refine step_app _ rfl (.tmp 17) (.tmp 20) 32 rfl elem_u8 (by rfl) N6.out.1 (by rfl) R6.out.rd (by simp [u8s, beK_len]) (u8s_one _) (by unfold maxLen; omega) (by omega) ?_
         intro v7 w7 ho7 hk7 hr7
         have hb7 := hb6.kept hk7 (N6.out.1.ne_blk hb6 (by decide))
         have N7 := Lib.hid ((N6.out.app ho7 hk7 hr7).cast (show 9 + 2 = 11 from rfl) rfl)
         obtain ⟨A7, c7, rfl, -, -⟩ := ho7.form
         clear ho7 hk7 hr7)
      | (go_at_call 42
         with_reducible refine (U4.out _).mono ?_
         rintro e w8 ⟨v8, rfl, hn8⟩
         have hb8 := hb7.kept hn8.2.1 (by simp)
         have N8 := Lib.hid (N7.out.go hn8.2.1)
         have R8 := Lib.hid (RdB.of_own hn8.1)
         obtain ⟨A8, c8, rfl, -, -⟩ := hn8.1.form
         clear hn8)
      | (refine step_app _ rfl (.tmp 21) (.tmp 24) 32 rfl elem_u8 (by rfl) N8.out.1 (by rfl) R8.out.rd (by simp [u8s, beK_len]) (u8s_one _) (by unfold maxLen; omega) (by omega) ?_
         intro v9 w9 ho9 hk9 hr9
         have hb9 := hb8.kept hk9 (N8.out.1.ne_blk hb8 (by decide))
         have N9 := Lib.hid ((N8.out.app ho9 hk9 hr9).cast (show 11 + 2 = 13 from rfl) rfl)
         obtain ⟨A9, c9, rfl, -, -⟩ := ho9.form
         clear ho9 hk9 hr9))
  clear hb6 hb7 hb8 hb9
  go_wp2
  go_ret
  exact ⟨_, rfl, by have := N9.out; simpa [tupB, u8B, u16B] using this⟩
end Go.Proofs.Ytogdpfjbclnlnaa
