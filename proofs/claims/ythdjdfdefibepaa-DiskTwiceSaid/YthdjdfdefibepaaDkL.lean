
/-
  The disk's laws: a file that every program must know.
-/
import Derived.Test.YthdjdfdefibepaaDkK
namespace Go.Proofs.Ythdjdfdefibepaa
open Go.RowKit Go.ChangeShapes Go.WideShapes Go.ChangeAt Go.Deep Go.MapKept
set_option linter.unusedVariables false

def dA : DkD := (appD (newDk 100) [97] [120, 121]).2
def dB : DkD := (synD dA [97]).2
def dC : DkD := (sdrD dB).2
def dD : DkD := (appD dC [97] [122]).2
def dE : DkD := craD dD []
theorem srt_single (x : Bs) : srtN [x] = [x] := by unfold srtN; simp
theorem awake_plain : reaD dE [97] = some [120, 121] := by
  have h1 : craN dD [] = [([97], 0)] := by decide +kernel
  have h2 : dD.files.map (fun f => (f.b, f.sure)) = [([120, 121, 122], 2)] := by decide +kernel
  obtain ⟨f, hf⟩ : ∃ f, dD.files = [f] := by
    have := congrArg List.length h2
    simp at this
    exact List.length_eq_one_iff.1 this
  rw [hf] at h2
  simp at h2
  unfold dE craD reaD
  rw [h1, List.map_cons, List.map_nil, srt_single, hf]
  simp [cutAll, getM, pickD, h2]
theorem okA : InvD dA ∧ dA.ops ≤ 10 := ⟨app_inv (new_inv 100) _ _, by unfold dA; rw [app_ops]; simp [newDk]⟩
theorem okB : InvD dB ∧ dB.ops ≤ 10 := ⟨syn_inv okA.1 _, by unfold dB dA; rw [syn_ops, app_ops]; simp [newDk]⟩
theorem okCc : InvD dC ∧ dC.ops ≤ 10 := ⟨sdr_inv okB.1, by unfold dC dB dA; rw [sdr_ops, syn_ops, app_ops]; simp [newDk]⟩
theorem okD : InvD dD ∧ dD.ops ≤ 10 := ⟨app_inv okCc.1 _ _, by unfold dD dC dB dA; rw [app_ops, sdr_ops, syn_ops, app_ops]; simp [newDk]⟩
theorem okE : InvD dE := cra_inv okD.1 _
theorem RdB.nilD (w : World) (G : List Nat) : RdB w G (.slice none 0 0) [] := ⟨none, 0, 0, rfl, rfl, by omega, by unfold maxLen; omega, Rd.nil _ _, by simp [addrOf], by simp⟩
theorem conv_lit (w : World) (C : Array Value) (n c : Nat) : (convert 28 28 (.slice (some ⟨w.heap.size, 0, none⟩) n c)).run Try.prog (w.alloc (.cells C 5)) = .ok (.slice (some ⟨w.heap.size, 0, none⟩) n c) (w.alloc (.cells C 5 (C.size, C.size + 1))) :=
  Lib.run_convert_bytes_const (P := Try.prog) w 28 5 C n c Try.underlying28 Try.underlying5
set_option maxRecDepth 100000 in
set_option maxHeartbeats 3200000 in
theorem awake3_any (w : World) : Calls Try.prog 13 #[] w fun e w' => e = .returned (.bool true) ∧ Kept [] w w' := by
  have t1 := strOf_toList [120, 121]
  go_enter Try.func13, Try.ntmps13
  go_upto_region 5 with (first
    | (go_at_call 14
       refine (NewS w 100).mono ?_
       rintro e w1 ⟨p, rfl, hs⟩
       have S1 := Lib.hid hs
       have cv1 := conv_lit w1 #[.int .u8 120, .int .u8 121] 2 2
       clear hs)
    | (go_at_call 17
       refine (show Calls Try.prog 17 #[.pointer (some ⟨p, 0, none⟩), .string ⟨#[97]⟩, .slice (some ⟨w1.heap.size, 0, none⟩) 2 2] (w1.alloc (.cells #[.int .u8 120, .int .u8 121] 5 (2, 3))) _ from AppendL (2, 3) S1.out (new_inv 100) (by simp [newDk]) [97] [120, 121] (by decide) (n := 2) rfl (by decide)).mono ?_
       rintro e w2 ⟨rfl, hs⟩
       have S2 := Lib.hid (show DkS w w2 p dA from hs)
       clear hs)
    | (go_at_call 21
       refine (show Calls Try.prog 21 #[.pointer (some ⟨p, 0, none⟩), .string ⟨#[97]⟩] w2 _ from SyncS S2.out okA.1 (by have := okA.2; omega) [97]).mono ?_
       rintro e w3 ⟨rfl, hs⟩
       have S3 := Lib.hid (show DkS w w3 p dB from hs)
       clear hs)
    | (go_at_call 22
       refine (SyncDirS S3.out okB.1 (by have := okB.2; omega)).mono ?_
       rintro e w4 ⟨rfl, hs⟩
       have S4 := Lib.hid (show DkS w w4 p dC from hs)
       have cv4 := conv_lit w4 #[.int .u8 122] 1 1
       clear hs))
  go_wp2_with (first
    | (go_at_call 17
       refine (show Calls Try.prog 17 #[.pointer (some ⟨p, 0, none⟩), .string ⟨#[97]⟩, .slice (some ⟨w4.heap.size, 0, none⟩) 1 1] (w4.alloc (.cells #[.int .u8 122] 5 (1, 2))) _ from AppendL (1, 2) S4.out okCc.1 (by have := okCc.2; omega) [97] [122] (by decide) (n := 1) rfl (by decide)).mono ?_
       rintro e w5 ⟨rfl, hs⟩
       have S5 := Lib.hid (show DkS w w5 p dD from hs)
       clear hs)
    | (go_at_call 24
       refine (show Calls Try.prog 24 #[.pointer (some ⟨p, 0, none⟩), .slice none 0 0] w5 _ from CrashS S5.out okD.1 (by have := okD.2; omega) [] (RdB.nilD w5 []) (by simp)).mono ?_
       rintro e w6 ⟨rfl, hs⟩
       have S6 := Lib.hid (show DkS w w6 p dE from hs)
       clear hs)
    | (go_at_call 25
       refine (show Calls Try.prog 25 #[.pointer (some ⟨p, 0, none⟩), .string ⟨#[97]⟩] w6 _ from ReadS S6.out okE [97]).mono ?_
       rintro e w7 ⟨hk7, hs7, ⟨h1, _⟩ | ⟨b, A2, m2, c2, h1, rfl, hn⟩⟩
       · rw [awake_plain] at h1; cases h1
       rw [awake_plain] at h1
       injection h1 with h1
       subst h1
       have K7 := Lib.hid hs7.kept
       have q1 := run_str (RdB.of_own hn.1)
       clear hk7 hs7 hn))
  go_ret
  exact ⟨rfl, K7.out⟩
end Go.Proofs.Ythdjdfdefibepaa
