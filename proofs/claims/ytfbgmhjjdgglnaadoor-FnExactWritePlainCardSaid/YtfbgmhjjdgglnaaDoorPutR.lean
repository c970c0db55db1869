/- Contracts and lemmas for the proofs of this seat: PutR. No condition beyond those stated. -/
import Derived.Test.YtfbgmhjjdgglnaaDoorRows
import Derived.WalkKit
import Derived.ProofKit
import Derived.OpenShut
import Derived.Handy
import Derived.Lib.Hide
import Derived.Lib.SmallJoins
import Derived.Laws.BytesArg
import Derived.Deep.RegionHeld3
import Derived.Deep.AppendLies
import Derived.Deep.RegionLaw
import Derived.Deep.QuietTactic
import Derived.BigQuiet
import Derived.Lib.ValidAsc
import Derived.Test.YtfbgmhjjdgglnaaDoorBase
import Derived.Test.YtfbgmhjjdgglnaaDoorGen
import Derived.Test.YtfbgmhjjdgglnaaDoorKit
import Derived.Test.YtfbgmhjjdgglnaaDoorMark
import Derived.Test.YtfbgmhjjdgglnaaDoorApp
import Derived.Test.YtfbgmhjjdgglnaaDoorMarkV
import Derived.Test.YtfbgmhjjdgglnaaDoorLawVal
import Derived.Test.YtfbgmhjjdgglnaaDoorCopy
import Derived.Test.YtfbgmhjjdgglnaaDoorPathAt
import Derived.Test.YtfbgmhjjdgglnaaDoorPathAt2
import Derived.Test.YtfbgmhjjdgglnaaDoorSame2
import Derived.Test.YtfbgmhjjdgglnaaDoorOnce
import Derived.Test.YtfbgmhjjdgglnaaDoorNamesT
import Derived.Test.YtfbgmhjjdgglnaaDoorShelf
import Derived.Test.YtfbgmhjjdgglnaaDoorTextF
import Derived.Test.YtfbgmhjjdgglnaaDoorValF
import Derived.Test.YtfbgmhjjdgglnaaDoorRune
import Derived.Test.YtfbgmhjjdgglnaaDoorHexT
namespace Go.Proofs.YtfbgmhjjdgglnaaDoor
open Go.ChangeShapes Go.WideShapes Go.ChangeAt Go.RowKit Go.Joins
set_option linter.unusedVariables false
set_option maxRecDepth 100000
/-- The bytes of a character. -/
def encN (n : Int) : List Int :=
  if n < 128 then [n] else if n < 2048 then [192 + n / 64, 128 + n % 64] else if n < 65536 then [224 + n / 4096, 128 + n / 64 % 64, 128 + n % 64] else [240 + n / 262144, 128 + n / 4096 % 64, 128 + n / 64 % 64, 128 + n % 64]
theorem encN_str (n : Int) (h : runeOk n) : strOfNums (encN n) = Utf8.encode n := by
  obtain ⟨u, rfl⟩ : ∃ u : Nat, n = u := ⟨n.toNat, by have := h.1; omega⟩
  obtain ⟨h1, h2⟩ := h
  have hv : Utf8.valid (u : Int) = true := by
    simp [Utf8.valid]; omega
  unfold encN Utf8.encode strOfNums
  rw [if_pos hv]
  simp only [Int.toNat_natCast]
  by_cases c1 : u < 128
  · rw [if_pos (show (u : Int) < 128 from by omega), if_pos c1]; rfl
  · rw [if_neg (show ¬ (u : Int) < 128 from by omega), if_neg c1]
    by_cases c2 : u < 2048
    · rw [if_pos (show (u : Int) < 2048 from by omega), if_pos c2]
      simp only [List.map_cons, List.map_nil]
      rw [show (192 + (u : Int) / 64).toNat = 192 + u / 64 from by omega, show (128 + (u : Int) % 64).toNat = 128 + u % 64 from by omega]
    · rw [if_neg (show ¬ (u : Int) < 2048 from by omega), if_neg c2]
      by_cases c3 : u < 65536
      · rw [if_pos (show (u : Int) < 65536 from by omega), if_pos c3]
        simp only [List.map_cons, List.map_nil]
        rw [show (224 + (u : Int) / 4096).toNat = 224 + u / 4096 from by omega, show (128 + (u : Int) / 64 % 64).toNat = 128 + u / 64 % 64 from by omega, show (128 + (u : Int) % 64).toNat = 128 + u % 64 from by omega]
      · rw [if_neg (show ¬ (u : Int) < 65536 from by omega), if_neg c3]
        simp only [List.map_cons, List.map_nil]
        rw [show (240 + (u : Int) / 262144).toNat = 240 + u / 262144 from by omega, show (128 + (u : Int) / 4096 % 64).toNat = 128 + u / 4096 % 64 from by omega, show (128 + (u : Int) / 64 % 64).toNat = 128 + u / 64 % 64 from by omega, show (128 + (u : Int) % 64).toNat = 128 + u % 64 from by omega]
set_option maxHeartbeats 4000000 in
theorem spec_PutRune0 (n : Int) (g cap : Nat) (w : World) (hn : runeOk n) (hcap : cap ≤ 9223372036854775807) :
    Calls Tryd.prog 148 #[.slice (some ⟨g, 0, none⟩) 0 cap, .int .i64 n] w fun e w' => ∃ a' cap', e = .returned (.slice a' (encN n).length cap') ∧ AppL EByte 1 5 w' w.heap.size a' cap' (encN n) [] ∧ Below w.heap.size w w' := by
  obtain ⟨h1a, h1b⟩ := hn.1
  have h0 := AppL.empty (E := EByte) (n := 1) (e := 5) w w.heap.size (Nat.le_refl _)
  by_cases h128 : n < 128
  · have HW := Lib.hid (show wideN n = 1 from by unfold wideN; rw [if_neg (by simp [hn]), if_pos h128])
    have HE := Lib.hid (show encN n = [n] from by unfold encN; rw [if_pos h128])
    clear hn
    go_enter Tryd.func148, Tryd.ntmps148
    go_wp2_with fail
    refine (spec_WideOf n _).mono ?_
    rintro e w2 ⟨rfl, hb2⟩
    rw [HW.out]
    have hs2 := hb2.size
    have HA := Lib.hid (h0.agree EByte.elem (fun f hf => hb2.block f hf) (by simp))
    have HB2 := Lib.hid (below_step (below1 w (.cells #[] 5)) hb2 (by simp))
    have hs3 : w.heap.size ≤ w2.heap.size := HB2.out.size
    have HN := Lib.hid (HA.out.agree EByte.elem (fun f hf => (below1 w2 (.cells #[Value.int IntKind.u8 (n)] 5)).block f hf) hs3)
    clear hb2
    go_wp2_with (at_builtin; refine wpList_appL EByte.elem rfl _ _ 82 rfl (.int .u8 0) 1 Tryd.underlying82 info_Byte2 rfl w.heap.size (some ⟨w.heap.size, 0, none⟩) 0 [] [] rfl HN.out (by simp; omega) w2.heap.size 0 1 1 [n] [] rfl rfl ⟨[], [], rfl, ⟨rfl, (Is.new w2 #[.int .u8 (n)] 5).cell 0 rfl, ⟨by omega, by omega⟩⟩, rfl⟩ (by simp) (by omega) (by simp [maxLen]) (by simp) ?_; intro ar2 cr2 w3 happ3 hb3)
    go_ret
    exact ⟨ar2, cr2, by rw [HE.out]; rfl, by rw [HE.out]; exact happ3, (HB2.out.trans ((below1 w2 _).mono hs3)).trans hb3⟩
  by_cases h2048 : n < 2048
  · have HW := Lib.hid (show wideN n = 2 from by unfold wideN; rw [if_neg (by simp [hn]), if_neg h128, if_pos h2048])
    have HE := Lib.hid (show encN n = [192 + n / 64, 128 + n % 64] from by unfold encN; rw [if_neg h128, if_pos h2048])
    clear hn
    go_enter Tryd.func148, Tryd.ntmps148
    go_wp2_with fail
    refine (spec_WideOf n _).mono ?_
    rintro e w2 ⟨rfl, hb2⟩
    rw [HW.out]
    have hs2 := hb2.size
    have HA := Lib.hid (h0.agree EByte.elem (fun f hf => hb2.block f hf) (by simp))
    have HB2 := Lib.hid (below_step (below1 w (.cells #[] 5)) hb2 (by simp))
    have hs3 : w.heap.size ≤ w2.heap.size := HB2.out.size
    have HN := Lib.hid (HA.out.agree EByte.elem (fun f hf => (below1 w2 (.cells #[Value.int IntKind.u8 (192 + n / 64), Value.int IntKind.u8 (128 + n % 64)] 5)).block f hf) hs3)
    clear hb2
    go_wp2_with (at_builtin; refine wpList_appL EByte.elem rfl _ _ 82 rfl (.int .u8 0) 1 Tryd.underlying82 info_Byte2 rfl w.heap.size (some ⟨w.heap.size, 0, none⟩) 0 [] [] rfl HN.out (by simp; omega) w2.heap.size 0 2 2 [192 + n / 64, 128 + n % 64] [] rfl rfl ⟨[], [], rfl, ⟨rfl, (Is.new w2 #[.int .u8 (192 + n / 64), .int .u8 (128 + n % 64)] 5).cell 0 rfl, ⟨by omega, by omega⟩⟩, ⟨[], [], rfl, ⟨rfl, (Is.new w2 #[.int .u8 (192 + n / 64), .int .u8 (128 + n % 64)] 5).cell 1 rfl, ⟨by omega, by omega⟩⟩, rfl⟩⟩ (by simp) (by omega) (by simp [maxLen]) (by simp) ?_; intro ar2 cr2 w3 happ3 hb3)
    go_ret
    exact ⟨ar2, cr2, by rw [HE.out]; rfl, by rw [HE.out]; exact happ3, (HB2.out.trans ((below1 w2 _).mono hs3)).trans hb3⟩
  by_cases h65536 : n < 65536
  · have HW := Lib.hid (show wideN n = 3 from by unfold wideN; rw [if_neg (by simp [hn]), if_neg h128, if_neg h2048, if_pos h65536])
    have HE := Lib.hid (show encN n = [224 + n / 4096, 128 + n / 64 % 64, 128 + n % 64] from by unfold encN; rw [if_neg h128, if_neg h2048, if_pos h65536])
    clear hn
    go_enter Tryd.func148, Tryd.ntmps148
    go_wp2_with fail
    refine (spec_WideOf n _).mono ?_
    rintro e w2 ⟨rfl, hb2⟩
    rw [HW.out]
    have hs2 := hb2.size
    have HA := Lib.hid (h0.agree EByte.elem (fun f hf => hb2.block f hf) (by simp))
    have HB2 := Lib.hid (below_step (below1 w (.cells #[] 5)) hb2 (by simp))
    have hs3 : w.heap.size ≤ w2.heap.size := HB2.out.size
    have HN := Lib.hid (HA.out.agree EByte.elem (fun f hf => (below1 w2 (.cells #[Value.int IntKind.u8 (224 + n / 4096), Value.int IntKind.u8 (128 + n / 64 % 64), Value.int IntKind.u8 (128 + n % 64)] 5)).block f hf) hs3)
    clear hb2
    go_wp2_with (at_builtin; refine wpList_appL EByte.elem rfl _ _ 82 rfl (.int .u8 0) 1 Tryd.underlying82 info_Byte2 rfl w.heap.size (some ⟨w.heap.size, 0, none⟩) 0 [] [] rfl HN.out (by simp; omega) w2.heap.size 0 3 3 [224 + n / 4096, 128 + n / 64 % 64, 128 + n % 64] [] rfl rfl ⟨[], [], rfl, ⟨rfl, (Is.new w2 #[.int .u8 (224 + n / 4096), .int .u8 (128 + n / 64 % 64), .int .u8 (128 + n % 64)] 5).cell 0 rfl, ⟨by omega, by omega⟩⟩, ⟨[], [], rfl, ⟨rfl, (Is.new w2 #[.int .u8 (224 + n / 4096), .int .u8 (128 + n / 64 % 64), .int .u8 (128 + n % 64)] 5).cell 1 rfl, ⟨by omega, by omega⟩⟩, ⟨[], [], rfl, ⟨rfl, (Is.new w2 #[.int .u8 (224 + n / 4096), .int .u8 (128 + n / 64 % 64), .int .u8 (128 + n % 64)] 5).cell 2 rfl, ⟨by omega, by omega⟩⟩, rfl⟩⟩⟩ (by simp) (by omega) (by simp [maxLen]) (by simp) ?_; intro ar2 cr2 w3 happ3 hb3)
    go_ret
    exact ⟨ar2, cr2, by rw [HE.out]; rfl, by rw [HE.out]; exact happ3, (HB2.out.trans ((below1 w2 _).mono hs3)).trans hb3⟩
  · have HW := Lib.hid (show wideN n = 4 from by unfold wideN; rw [if_neg (by simp [hn]), if_neg h128, if_neg h2048, if_neg h65536])
    have HE := Lib.hid (show encN n = [240 + n / 262144, 128 + n / 4096 % 64, 128 + n / 64 % 64, 128 + n % 64] from by unfold encN; rw [if_neg h128, if_neg h2048, if_neg h65536])
    clear hn
    go_enter Tryd.func148, Tryd.ntmps148
    go_wp2_with fail
    refine (spec_WideOf n _).mono ?_
    rintro e w2 ⟨rfl, hb2⟩
    rw [HW.out]
    have hs2 := hb2.size
    have HA := Lib.hid (h0.agree EByte.elem (fun f hf => hb2.block f hf) (by simp))
    have HB2 := Lib.hid (below_step (below1 w (.cells #[] 5)) hb2 (by simp))
    have hs3 : w.heap.size ≤ w2.heap.size := HB2.out.size
    have HN := Lib.hid (HA.out.agree EByte.elem (fun f hf => (below1 w2 (.cells #[Value.int IntKind.u8 (240 + n / 262144), Value.int IntKind.u8 (128 + n / 4096 % 64), Value.int IntKind.u8 (128 + n / 64 % 64), Value.int IntKind.u8 (128 + n % 64)] 5)).block f hf) hs3)
    clear hb2
    go_wp2_with (at_builtin; refine wpList_appL EByte.elem rfl _ _ 82 rfl (.int .u8 0) 1 Tryd.underlying82 info_Byte2 rfl w.heap.size (some ⟨w.heap.size, 0, none⟩) 0 [] [] rfl HN.out (by simp; omega) w2.heap.size 0 4 4 [240 + n / 262144, 128 + n / 4096 % 64, 128 + n / 64 % 64, 128 + n % 64] [] rfl rfl ⟨[], [], rfl, ⟨rfl, (Is.new w2 #[.int .u8 (240 + n / 262144), .int .u8 (128 + n / 4096 % 64), .int .u8 (128 + n / 64 % 64), .int .u8 (128 + n % 64)] 5).cell 0 rfl, ⟨by omega, by omega⟩⟩, ⟨[], [], rfl, ⟨rfl, (Is.new w2 #[.int .u8 (240 + n / 262144), .int .u8 (128 + n / 4096 % 64), .int .u8 (128 + n / 64 % 64), .int .u8 (128 + n % 64)] 5).cell 1 rfl, ⟨by omega, by omega⟩⟩, ⟨[], [], rfl, ⟨rfl, (Is.new w2 #[.int .u8 (240 + n / 262144), .int .u8 (128 + n / 4096 % 64), .int .u8 (128 + n / 64 % 64), .int .u8 (128 + n % 64)] 5).cell 2 rfl, ⟨by omega, by omega⟩⟩, ⟨[], [], rfl, ⟨rfl, (Is.new w2 #[.int .u8 (240 + n / 262144), .int .u8 (128 + n / 4096 % 64), .int .u8 (128 + n / 64 % 64), .int .u8 (128 + n % 64)] 5).cell 3 rfl, ⟨by omega, by omega⟩⟩, rfl⟩⟩⟩⟩ (by simp) (by omega) (by simp [maxLen]) (by simp) ?_; intro ar2 cr2 w3 happ3 hb3)
    go_ret
    exact ⟨ar2, cr2, by rw [HE.out]; rfl, by rw [HE.out]; exact happ3, (HB2.out.trans ((below1 w2 _).mono hs3)).trans hb3⟩
set_option maxHeartbeats 2000000 in
theorem spec_FromRune (n : Int) (g cap : Nat) (w : World) (hn : runeOk n) (hcap : 1 ≤ cap) (hcap2 : cap ≤ 9223372036854775807) (hg : g < w.heap.size) (hc : w.cell? ⟨g, 0, none⟩ = some (.int .i64 n)) :
    Calls Tryd.prog 141 #[.slice (some ⟨g, 0, none⟩) 1 cap] w fun e w' => e = .returned (.string (Utf8.encode n)) ∧ Below w.heap.size w w' := by
  have HE := Lib.hid (encN_str n hn)
  have HN := Lib.hid hn
  have hlen : (encN n).length ≤ 4 := by unfold encN; split; simp; split; simp; split <;> simp
  go_enter Tryd.func141, Tryd.ntmps141
  go_wp2_with fail
  go_loopw [3, 4] (fun q i wr => Below w.heap.size w wr ∧ ((i = .int .i64 0 ∧ q = .slice (some ⟨w.heap.size, 0, none⟩) 0 0) ∨ (i = .int .i64 1 ∧ ∃ a' cap', q = .slice a' (encN n).length cap' ∧ ∃ rlo, AppL EByte 1 5 wr rlo a' cap' (encN n) []))) (fun _ i _ => 1 - (intOf i).toNat)
  case atStart => exact ⟨below1 _ _, Or.inl ⟨rfl, rfl⟩⟩
  case round =>
    obtain ⟨hb, ⟨rfl, rfl⟩ | ⟨rfl, a', cap', rfl, rlo, happ⟩⟩ := hrel
    · have hbs := hb.size
      have hc2 := (hb.cell (p := ⟨g, 0, none⟩) hg).trans hc
      have hg2 : g < wr.heap.size := by omega
      go_wp2_with fail
      refine (spec_PutRune0 n w.heap.size 0 _ HN.out (by omega)).mono ?_
      rintro e w2 ⟨a', cap', rfl, happ, hb2⟩
      have HA := Lib.hid happ; clear happ
      go_wp2_with fail
      go_roundw
      case rel => exact ⟨hb.trans (hb2.mono hbs), Or.inr ⟨rfl, a', cap', rfl, _, HA.out⟩⟩
      case measure => simp [intOf]
    · have hcv := conv_bytes wr rlo a' cap' _ [] happ
      rw [HE.out] at hcv
      clear happ
      go_wp2_with fail
      go_ret
      exact ⟨rfl, hb⟩
end Go.Proofs.YtfbgmhjjdgglnaaDoor
