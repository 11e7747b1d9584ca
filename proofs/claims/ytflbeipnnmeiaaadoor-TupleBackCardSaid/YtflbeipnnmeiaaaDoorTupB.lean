
/-
  A text that every program must know; tuples among a law's arguments; the walk of TupleRow.
-/
import Derived.Test.YtflbeipnnmeiaaaDoorTupA
import Derived.Test.YtflbeipnnmeiaaaDoorRecW
import Derived.Test.YtflbeipnnmeiaaaDoorRecG
import Derived.Test.YtflbeipnnmeiaaaDoorRecZ
import Derived.Test.YtflbeipnnmeiaaaDoorFrameA
namespace Go.Proofs.YtflbeipnnmeiaaaDoor
open Go.RowKit Go.ChangeShapes Go.WideShapes Go.ChangeAt Go.Deep
set_option linter.unusedVariables false
set_option maxRecDepth 100000

theorem text_known : textF ⟨167772161, 167772162, 6, 5, 80⟩ = [116, 99, 112, 32, 49, 48, 46, 48, 46, 48, 46, 49, 58, 53, 62, 49, 48, 46, 48, 46, 48, 46, 50, 58, 56, 48] := by
  have a1 : addrF 167772161 = [49, 48, 46, 48, 46, 48, 46, 49] := by
    rw [addrF_eq, show byteN 167772161 3 = 10 by decide, show byteN 167772161 2 = 0 by decide, show byteN 167772161 1 = 0 by decide, show byteN 167772161 0 = 1 by decide,
      Lib.decDigits_two (by omega) (by omega), Lib.decDigits_one (by omega), Lib.decDigits_one (by omega)]
    rfl
  have a2 : addrF 167772162 = [49, 48, 46, 48, 46, 48, 46, 50] := by
    rw [addrF_eq, show byteN 167772162 3 = 10 by decide, show byteN 167772162 2 = 0 by decide, show byteN 167772162 1 = 0 by decide, show byteN 167772162 0 = 2 by decide,
      Lib.decDigits_two (by omega) (by omega), Lib.decDigits_one (by omega), Lib.decDigits_one (by omega)]
    rfl
  have h5 : Lib.itoa 5 = [53] := by
    have := Lib.itoa_nonneg 5
    rw [Lib.decDigits_one (by omega)] at this
    exact this
  have h80 : Lib.itoa 80 = [56, 48] := by
    have := Lib.itoa_nonneg 80
    rw [Lib.decDigits_two (by omega) (by omega)] at this
    exact this
  unfold textF
  dsimp only
  rw [a1, a2, h5, h80]
  rfl
set_option maxHeartbeats 1600000 in
theorem awake7_any (w : World) (ht : PowTab w) : Calls Tryd.prog 9 #[] w fun e w' => e = .returned (.bool true) ∧ Kept [] w w' := by
  have HT := Lib.hid ht
  have HX := Lib.hid (show strOf (textF ⟨167772161, 167772162, 6, 5, 80⟩) = (⟨#[116, 99, 112, 32, 49, 48, 46, 48, 46, 48, 46, 49, 58, 53, 62, 49, 48, 46, 48, 46, 48, 46, 50, 58, 56, 48]⟩ : ByteArray) by rw [text_known]; rfl)
  clear ht
  go_enter Tryd.func9, Tryd.ntmps9
  go_wp2_with (go_at_call 10
               go_must (refine (Text_any _ ⟨167772161, 167772162, 6, 5, 80⟩ (by unfold inI; decide) (by unfold inI; decide) HT.out).mono ?_)
               go_must (rintro e w1 ⟨rfl, k1⟩)
               go_must (rw [HX.out])
               go_must (have K := Lib.hid k1)
               go_must (clear k1))
  go_ret
  exact ⟨by rfl, K.out⟩

def TupDec (w : World) (G : List Nat) (cs : List Value) (t : TupD) : Prop := cs = [.int .u32 (t.src.toNat : Nat), .int .u32 (t.dst.toNat : Nat), .int .i64 t.proto, .int .i64 t.sport, .int .i64 t.dport]
abbrev TupArr (w : World) (G : List Nat) (v : Value) (l : List TupD) : Prop := ArrOf w G 5 (fun w => TupDec w G) v l
theorem TupArr.kept {w w' : World} {G S : List Nat} {v : Value} {l : List TupD} (h : TupArr w G v l) (hk : Kept S w w') (hd : ∀ k ∈ G, k ∉ S) : TupArr w' G v l :=
  ArrOf.kept (Dec := fun w => TupDec w G) h hk hd (fun cs a h => h)
theorem TupArr.at {w : World} {G : List Nat} {A : Option Addr} {m c : Nat} {l : List TupD} (h : TupArr w G (.slice A m c) l) {k : Nat} (hk : k < l.length) :
    ∃ g o, A = some ⟨g, o, none⟩ ∧ g < w.heap.size ∧ g ∈ G ∧ w.cell? ⟨g, o + k * 5, none⟩ = some (.int .u32 (l[k].src.toNat : Nat)) ∧ w.cell? ⟨g, o + k * 5 + 1, none⟩ = some (.int .u32 (l[k].dst.toNat : Nat)) ∧ w.cell? ⟨g, o + k * 5 + 2, none⟩ = some (.int .i64 l[k].proto) ∧
      w.cell? ⟨g, o + k * 5 + 3, none⟩ = some (.int .i64 l[k].sport) ∧ w.cell? ⟨g, o + k * 5 + 4, none⟩ = some (.int .i64 l[k].dport) := by
  obtain ⟨A', m', c', e, h1, h2, h3, h4, h5⟩ := h
  injection e with e1 e2 e3
  subst e1 e2 e3
  obtain ⟨g, o, rfl, hg, hlt, hc⟩ := h5 (by rintro rfl; simp at hk)
  obtain ⟨cs, _, rfl, hcell⟩ := hc k _ (List.getElem?_eq_getElem hk)
  exact ⟨g, o, rfl, hlt, hg, by simpa using hcell 0 (by omega), by simpa [Nat.add_assoc] using hcell 1 (by omega), by simpa [Nat.add_assoc] using hcell 2 (by omega), by simpa [Nat.add_assoc] using hcell 3 (by omega), by simpa [Nat.add_assoc] using hcell 4 (by omega)⟩
theorem TupArr.len {w : World} {G : List Nat} {A : Option Addr} {m c : Nat} {l : List TupD} (h : TupArr w G (.slice A m c) l) : l.length = m ∧ m ≤ c ∧ c ≤ maxLen := by
  obtain ⟨A', m', c', e, h1, h2, h3, h4, h5⟩ := h
  injection e with e1 e2 e3
  subst e1 e2 e3
  exact ⟨h1, h2, h3⟩
theorem open_tuples {H : Type} {enc : TypeId × Value → H} {w : World} {v : Value} {d : DataW H} {p : List MemPlace} {base : Nat} (hv : Value.okWide Tryd.prog w .any base 30 v) (h : DataW.Trod enc Tryd.prog w 0 (fun _ => true) true 30 v d p) :
    ∃ l : List TupD, TupArr w (old w) v l ∧ (l.map fun _ => 0).sum + 1 ≤ Rows.uptoBulk d :=
  open_list (Dec := TupDec) Tryd.underlying30 (by kernel_rfl) (by omega) (fun {fuel cs x} h => by
    obtain ⟨t, e⟩ := open_tuple h
    exact ⟨t, e, Nat.zero_le _⟩) hv h
/-- the tuples that are written, up to the kth -/
def selT (l : List TupD) (k : Nat) : List TupD := ((l.take 30).take k).filter mayT
def restT (l : List TupD) (k : Nat) : List TupD := ((l.take 30).drop k).filter mayT
def bytesT (l : List TupD) : List UInt8 := l.flatMap tupB
theorem bytesT_len (l : List TupD) : (bytesT l).length = 13 * l.length := by
  unfold bytesT
  induction l with
  | nil => rfl
  | cons t l ih => rw [List.flatMap_cons, List.length_append, ih, tupB_len, List.length_cons]; omega
theorem selT_len (l : List TupD) (k : Nat) : (selT l k).length ≤ 30 :=
  Nat.le_trans (List.length_filter_le _ _) (by simp only [List.length_take]; omega)
theorem selT_in {l : List TupD} {k : Nat} (h : k < l.length) (h3 : k < 30) : selT l (k + 1) = selT l k ++ if mayT l[k] = true then [l[k]] else [] := by
  unfold selT
  have hk : k < (l.take 30).length := by rw [List.length_take]; omega
  rw [List.take_succ_eq_append_getElem hk, List.filter_append, List.getElem_take, List.filter_cons]
  split <;> simp
theorem selT_out {l : List TupD} {k : Nat} (h3 : ¬ k < 30) : selT l (k + 1) = selT l k := by
  unfold selT
  have h0 : (l.take 30).length ≤ k := by rw [List.length_take]; omega
  rw [List.take_of_length_le (Nat.le_succ_of_le h0), List.take_of_length_le h0]
theorem restT_in {l : List TupD} {k : Nat} (h : k < l.length) (h3 : k < 30) : restT l k = (if mayT l[k] = true then [l[k]] else []) ++ restT l (k + 1) := by
  unfold restT
  have hk : k < (l.take 30).length := by rw [List.length_take]; omega
  rw [← List.getElem_cons_drop (h := hk), List.filter_cons, List.getElem_take]
  split <;> simp
theorem restT_out {l : List TupD} {k : Nat} (h3 : ¬ k < 30) : restT l k = [] := by
  unfold restT
  rw [List.drop_of_length_le (by rw [List.length_take]; omega)]; rfl
theorem restT_end (l : List TupD) {k : Nat} (h : l.length ≤ k) : restT l k = [] := by
  unfold restT
  rw [List.drop_of_length_le (by rw [List.length_take]; omega)]; rfl
theorem sel_rest (l : List TupD) {k : Nat} (h : l.length ≤ k) : selT l k = restT l 0 := by
  unfold selT restT
  have h0 : (l.take 30).length ≤ k := by rw [List.length_take]; omega
  rw [List.take_of_length_le h0, List.drop_zero]
set_option maxHeartbeats 6400000 in
theorem TupleRow_any (w : World) {A : Option Addr} {m c : Nat} (l : List TupD) (h : TupArr w (old w) (.slice A m c) l) (ht : PowTab w) :
    Calls Tryd.prog 4 #[.slice A m c] w fun e w' => e = .returned (.bool true) ∧ Kept [] w w' := by
  have HT := Lib.hid (fun w' (hk : Kept [] w w') => tab_kept ht (g := 1) (by kernel_rfl) hk (by simp))
  have H := Lib.hid (fun w' (hk : Kept [] w w') => TupArr.kept h hk (by simp))
  obtain ⟨hl, hmc, hcm⟩ := h.len
  have HL := Lib.hid hl
  have V := Lib.hid (WV.start (Kept.refl [] w))
  unfold maxLen at hcm
  clear h ht hl
  go_enter Tryd.func4, Tryd.ntmps4
  go_wp2
  go_loopg [4, 18] m (fun g n i wr => ∃ k : Nat, k ≤ m ∧ g = m - k ∧ i = .int .i64 k ∧ n = .int .i64 ((selT l k).length : Nat) ∧ WV w w.heap.size (bytesT (selT l k)) wr)
  case atStart => exact ⟨0, by omega, by omega, rfl, by simp [selT], V.out⟩
  case round =>
    obtain ⟨k, hk, rfl, rfl, rfl, hV⟩ := hrel
    clear V
    have V := Lib.hid hV
    have K := Lib.hid hV.kept
    have hvl := bytesT_len (selT l k)
    have hsl := selT_len l k
    obtain ⟨bs, hbs⟩ : ∃ b, bytesT (selT l k) = b := ⟨_, rfl⟩
    obtain ⟨n, hn⟩ : ∃ n, (selT l k).length = n := ⟨_, rfl⟩
    rw [hbs, hn] at hvl
    rw [hn] at hsl ⊢
    have V := Lib.hid (hbs ▸ V.out)
    have HBS := Lib.hid hbs
    have HN := Lib.hid hn
    clear hV hbs hn
    by_cases hlt : k < m
    · have hkl : k < l.length := by have := HL.out; omega
      obtain ⟨g, o, rfl, hg, -, c0, c1, c2, c3, c4⟩ := TupArr.at (H.out _ K.out) hkl
      obtain ⟨t, htk⟩ : ∃ t, l[k] = t := ⟨_, rfl⟩
      rw [htk] at c0 c1 c2 c3 c4
      have HTK := Lib.hid htk
      clear htk
      have i1 : (k : Int) < (m : Int) := by omega
      have X := Lib.hid (Blk.new wr 24 #[.int .u32 (t.src.toNat : Nat), .int .u32 (t.dst.toNat : Nat), .int .i64 t.proto, .int .i64 t.sport, .int .i64 t.dport])
      have kA := Lib.hid ((Kept.refl [] wr).alloc (.cells #[.int .u32 (t.src.toNat : Nat), .int .u32 (t.dst.toNat : Nat), .int .i64 t.proto, .int .i64 t.sport, .int .i64 t.dport] 24))
      by_cases h30 : k < 30
      · have hin := selT_in hkl h30
        rw [HTK.out] at hin
        have i2 : (k : Int) < 30 := by omega
        cases dm : mayT t
        · have HIN := Lib.hid (show selT l (k + 1) = selT l k by rw [hin, dm]; simp)
          clear hin
          go_wp2_with (go_at_call 8
                       go_must (refine (tMay_any _ t).mono ?_)
                       go_must (rintro e w1 ⟨rfl, k1⟩)
                       go_must (rw [dm])
                       go_must (have V := Lib.hid ((V.out.go kA.out).go k1))
                       go_must (clear k1))
          go_roundg (m - (k + 1))
          case measure => omega
          case rel => exact ⟨k + 1, by omega, rfl, by go_num, by rw [HIN.out, HN.out], by rw [HIN.out, HBS.out]; exact V.out⟩
        · have HIN := Lib.hid (show selT l (k + 1) = selT l k ++ [t] by rw [hin, dm]; simp)
          clear hin
          go_wp2_with (first
            | (go_at_call 8
               go_must (refine (tMay_any _ t).mono ?_)
               go_must (rintro e w1 ⟨rfl, k1⟩)
               go_must (rw [dm])
               go_must (have V := Lib.hid ((V.out.go kA.out).go k1))
               go_must (have X := Lib.hid (X.out.kept k1 (by simp)))
               go_must (have hcX := X.out.cell)
               go_must (clear k1))
            | (go_at_call 11
               go_must (refine (TW_any V.out t (by omega)).mono ?_)
               go_must (rintro e w2 ⟨rfl, hV2, -⟩)
               go_must (have V := Lib.hid hV2)
               go_must (clear hV2 hcX)))
          go_roundg (m - (k + 1))
          case measure => omega
          case rel =>
            refine ⟨k + 1, by omega, rfl, by go_num, ?_, ?_⟩
            · rw [HIN.out, List.length_append, HN.out]; go_num
            · rw [HIN.out]
              have e : bytesT (selT l k ++ [t]) = bs ++ tupB t := by rw [← HBS.out]; simp [bytesT]
              rw [e]; exact V.out
      · have HIN := Lib.hid (selT_out (l := l) h30)
        have i2 : ¬ (k : Int) < 30 := by omega
        go_wp2
        go_roundg (m - (k + 1))
        case measure => omega
        case rel => exact ⟨k + 1, by omega, rfl, by go_num, by rw [HIN.out, HN.out], by rw [HIN.out, HBS.out]; exact V.out.go kA.out⟩
    · obtain rfl : k = m := by omega
      have i1 : ¬ (k : Int) < (k : Int) := by omega
      have HB0 := Lib.hid (show bs = bytesT (restT l 0) by rw [← HBS.out, sel_rest l (by have := HL.out; omega)])
      go_wp2_with (first
        | (go_at_call 13
           go_must (refine (VBytes V.out (by omega)).mono ?_)
           go_must (rintro e w1 ⟨A1, n1, c1, rfl, hn1, hnew, hV1, k1⟩)
           go_must (have hrd := RdB.of_own hnew.1)
           go_must (have RD := Lib.hid hrd)
           go_must (have V := Lib.hid hV1)
           go_must (have K := Lib.hid (K.out.trans k1 (by simp)))
           go_must (clear hnew hV1 k1 hrd hn1))
        | (go_at_call 12
           go_must (have hvl2 := RD.out.len)
           go_must (refine (NewReader_any _ A1 n1 c1 bs RD.out.rd hvl2.1 hvl2.2.2.2 (by omega)).mono ?_)
           go_must (rintro e w2 ⟨rb, G1, rfl, h1, k1, hb1, hG1⟩)
           go_must (have hsz := K.out.size)
           go_must (obtain ⟨v, hwr, hvb, hvr, hvk⟩ := V.out)
           go_must (have hbb := hwr.blk.lt)
           go_must (have hbr : w.heap.size < rb := by omega)
           go_must (have HVR : Hid (∀ k ∈ rowOf v, k ∉ [rb]) := Lib.hid (fun k hk hm => by have := hwr.own.lt k hk; simp at hm; omega))
           go_must (have W0 := Lib.hid (hwr.kept k1 (by simp) (by simp)))
           go_must (have K := Lib.hid (K.out.trans k1 (by simp)))
           go_must (have R : Hid (RWo w rb (some (bytesT (restT l 0))) w2) := Lib.hid ⟨G1, by rw [← HB0.out]; exact h1, by omega, fun k hk => (hG1 k hk).2, K.out, by rw [← HB0.out]; show bs.length ≤ 1000000; omega⟩)
           go_must (clear h1 k1 hb1 hG1 hvl2 hwr hvb hvr hvk)))
      go_loopg [40] k (fun gg i wr => ∃ j : Nat, j ≤ k ∧ gg = k - j ∧ i = .int .i64 j ∧ RWo w rb (some (bytesT (restT l j))) wr ∧ Wr wr w.heap.size v bs ∧ Kept [] w wr)
      case atStart => exact ⟨0, by omega, by omega, rfl, R.out, W0.out, K.out⟩
      case round =>
        obtain ⟨j, hj, rfl, rfl, hR, hW, hK⟩ := hrel
        clear R W0 K V RD
        have R := Lib.hid hR
        have W0 := Lib.hid hW
        have K := Lib.hid hK
        have hrw := hR.lt
        clear hR hW hK
        by_cases hlt2 : j < k
        · have hjl : j < l.length := by have := HL.out; omega
          obtain ⟨g, o, rfl, hg, -, c0, c1, c2, c3, c4⟩ := TupArr.at (H.out _ K.out) hjl
          obtain ⟨t, htk⟩ : ∃ t, l[j] = t := ⟨_, rfl⟩
          rw [htk] at c0 c1 c2 c3 c4
          have HTK := Lib.hid htk
          clear htk
          have j1 : (j : Int) < (k : Int) := by omega
          have X := Lib.hid (Blk.new wr 24 #[.int .u32 (t.src.toNat : Nat), .int .u32 (t.dst.toNat : Nat), .int .i64 t.proto, .int .i64 t.sport, .int .i64 t.dport])
          have kA := Lib.hid ((Kept.refl [] wr).alloc (.cells #[.int .u32 (t.src.toNat : Nat), .int .u32 (t.dst.toNat : Nat), .int .i64 t.proto, .int .i64 t.sport, .int .i64 t.dport] 24))
          by_cases h30 : j < 30
          · have hin := restT_in hjl h30
            rw [HTK.out] at hin
            have j2 : (j : Int) < 30 := by omega
            cases dm : mayT t
            · have HIN := Lib.hid (show restT l j = restT l (j + 1) by rw [hin, dm]; simp)
              clear hin
              go_wp2_with (go_at_call 8
                           go_must (refine (tMay_any _ t).mono ?_)
                           go_must (rintro e w3 ⟨rfl, k1⟩)
                           go_must (rw [dm])
                           go_must (have k2 := kA.out.trans k1 (by simp))
                           go_must (have R := Lib.hid (R.out.go k2))
                           go_must (have W0 := Lib.hid (W0.out.kept k2 (by simp) (by simp)))
                           go_must (have K := Lib.hid (K.out.trans k2 (by simp)))
                           go_must (clear k1 k2))
              go_roundg (k - (j + 1))
              case measure => omega
              case rel => exact ⟨j + 1, by omega, rfl, by go_num, by rw [← HIN.out]; exact R.out, W0.out, K.out⟩
            · have HIN := Lib.hid (show restT l j = t :: restT l (j + 1) by rw [hin, dm]; simp)
              clear hin
              obtain ⟨rest, hrest⟩ : ∃ r, bytesT (restT l (j + 1)) = r := ⟨_, rfl⟩
              have e : bytesT (restT l j) = tupB t ++ rest := by rw [HIN.out, ← hrest]; rfl
              have R := Lib.hid (e ▸ R.out)
              have HE := Lib.hid (rdT_enc dm rest)
              have HRS := Lib.hid hrest
              clear e hrest
              go_wp2_with (first
                | (go_at_call 8
                   go_must (refine (tMay_any _ t).mono ?_)
                   go_must (rintro e w3 ⟨rfl, k1⟩)
                   go_must (rw [dm])
                   go_must (have k2 := kA.out.trans k1 (by simp))
                   go_must (have R := Lib.hid (R.out.go k2))
                   go_must (have W0 := Lib.hid (W0.out.kept k2 (by simp) (by simp)))
                   go_must (have K := Lib.hid (K.out.trans k2 (by simp)))
                   go_must (have X := Lib.hid (X.out.kept k1 (by simp)))
                   go_must (clear k1 k2))
                | (go_at_call 14
                   go_must (refine (TRead_any R.out).mono ?_)
                   go_must (rintro e w4 ⟨rfl, h1, k1⟩)
                   go_must (rw [HE.out.1])
                   go_must (rw [HE.out.2] at h1)
                   go_must (have R := Lib.hid h1)
                   go_must (have W0 := Lib.hid (W0.out.kept k1 (by simp; omega) HVR.out))
                   go_must (have X := Lib.hid (X.out.kept k1 (by simp; omega)))
                   go_must (have K := Lib.hid (K.out.trans k1 (fun i hi => .inr (by simp at hi; omega))))
                   go_must (have hcX := X.out.cell)
                   go_must (have hlX := X.out.lt)
                   go_must (clear h1 k1)))
              go_roundg (k - (j + 1))
              case measure => omega
              case rel =>
                have kB := (Kept.refl [] w4).alloc (.cells #[.int .u32 (t.src.toNat : Nat), .int .u32 (t.dst.toNat : Nat), .int .i64 t.proto, .int .i64 t.sport, .int .i64 t.dport] 24)
                exact ⟨j + 1, by omega, rfl, by go_num, by rw [HRS.out]; exact R.out.go kB, W0.out.kept kB (by simp) (by simp), K.out.trans kB (by simp)⟩
          · have HIN := Lib.hid (show restT l j = restT l (j + 1) by rw [restT_out h30, restT_out (by omega)])
            have j2 : ¬ (j : Int) < 30 := by omega
            go_wp2
            go_roundg (k - (j + 1))
            case measure => omega
            case rel => exact ⟨j + 1, by omega, rfl, by go_num, by rw [← HIN.out]; exact R.out.go kA.out, W0.out.kept kA.out (by simp) (by simp), K.out.trans kA.out (by simp)⟩
        · obtain rfl : j = k := by omega
          have R := Lib.hid (show RWo w rb (some []) wr by have h := R.out; rw [restT_end l (by have := HL.out; omega)] at h; exact h)
          have HE := Lib.hid (show rdT (some []) = (default, false) from rfl)
          go_wp2_with (first
            | (go_at_call 14
               go_must (refine (TRead_any R.out).mono ?_)
               go_must (rintro e w4 ⟨rfl, h1, k1⟩)
               go_must (rw [HE.out])
               go_must (have W0 := Lib.hid (W0.out.kept k1 (by simp; omega) HVR.out))
               go_must (have K := Lib.hid (K.out.trans k1 (fun i hi => .inr (by simp at hi; omega))))
               go_must (have kB := Lib.hid ((Kept.refl [] w4).alloc (.cells #[.int .u32 ((default : TupD).src.toNat : Nat), .int .u32 ((default : TupD).dst.toNat : Nat), .int .i64 (default : TupD).proto, .int .i64 (default : TupD).sport, .int .i64 (default : TupD).dport] 24)))
               go_must (have W0 := Lib.hid (W0.out.kept kB.out (by simp) (by simp)))
               go_must (have K := Lib.hid (K.out.trans kB.out (by simp)))
               go_must (clear h1 k1))
            | (go_at_call 15
               go_must (refine (Len_any _ _ _ _ W0.out).mono ?_)
               go_must (rintro e w5 ⟨rfl, rfl⟩))
            | (go_at_call 9
               go_must (refine (awake7_any _ (HT.out _ K.out)).mono ?_)
               go_must (rintro e w6 ⟨rfl, k1⟩)
               go_must (have K := Lib.hid (K.out.trans k1 (by simp)))
               go_must (clear k1)))
          go_ret
          exact ⟨rfl, K.out⟩
theorem powG7 : Tryd.prog.globalNamed "internal/strconv.uint64pow10" = some 1 := by kernel_rfl
theorem TupleRow_walk {H : Type} {enc : TypeId × Value → H} {S : Prop} (W : World) (base : Nat) (v0 : Value) (d0 : DataW H) (p0 : List MemPlace)
    (hv0 : Value.okWide Tryd.prog W .any base 30 v0) (h0 : DataW.Trod enc Tryd.prog W 0 (fun _ => true) true 30 v0 d0 p0) (_ : S) (ht : PowTab W) :
    Calls Tryd.prog 4 #[v0] W fun e W' => e = .returned (.bool true) ∧ Below W.heap.size W W' := by
  obtain ⟨l, hl, -⟩ := open_tuples hv0 h0
  obtain ⟨A, m, c, rfl, -⟩ := id hl
  exact (TupleRow_any W l hl ht).mono fun e W' ⟨h, hk⟩ => ⟨h, hk.below (Nat.le_refl _) (by simp)⟩
end Go.Proofs.YtflbeipnnmeiaaaDoor
