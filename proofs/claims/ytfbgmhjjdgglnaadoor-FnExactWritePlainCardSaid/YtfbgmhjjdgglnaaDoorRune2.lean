/- Contracts and lemmas for the proofs of this seat: Rune2. No condition beyond those stated. -/
import Derived.Test.YtfbgmhjjdgglnaaDoorRows
import Derived.WalkKit
import Derived.ProofKit
import Derived.OpenShut
import Derived.Handy
import Derived.Lib.Hide
import Derived.Lib.SmallJoins
import Derived.Lib.ValidLaws
import Derived.Lib.ValidAsc
import Derived.Lib.ConvBytes
import Derived.Shelf.Unicode.ValidAny
import Derived.Test.YtfbgmhjjdgglnaaDoorBase
import Derived.Test.YtfbgmhjjdgglnaaDoorGen
import Derived.Test.YtfbgmhjjdgglnaaDoorKit
import Derived.Test.YtfbgmhjjdgglnaaDoorShelf
import Derived.Test.YtfbgmhjjdgglnaaDoorTextF
import Derived.Test.YtfbgmhjjdgglnaaDoorValF
import Derived.Test.YtfbgmhjjdgglnaaDoorRune
namespace Go.Proofs.YtfbgmhjjdgglnaaDoor
open Go.ChangeShapes Go.WideShapes Go.ChangeAt Go.RowKit Go.Joins
set_option linter.unusedVariables false
set_option maxRecDepth 100000
theorem bytesWorld_below (w : World) (e : TypeId) (s : ByteArray) : Below w.heap.size w (Lib.bytesWorld w e s) := ⟨rfl, rfl, rfl, by rw [Lib.bytesWorld_size]; omega, fun j hj => Lib.bytesWorld_at_old w e s j hj⟩
theorem grL_at (l : List UInt8) (i : Nat) : grL (l.drop i) = grW (l.length - i) (l.getD i 0).toNat (l.getD (i + 1) 0).toNat (l.getD (i + 2) 0).toNat (l.getD (i + 3) 0).toNat := by
  unfold grL
  simp [List.getD_eq_getElem?_getD, List.getElem?_drop, List.length_drop]
set_option maxHeartbeats 2000000 in
theorem spec_TextOk (s : ByteArray) (w : World) (hs : s.size ≤ 4611686018427387903) :
    Calls Tryd.prog 81 #[.string s] w fun e w' => e = .returned (.bool (Lib.validD s.data.toList)) ∧ Below w.heap.size w w' := by
  have hcv := Lib.run_convert_string_bytes (P := Tryd.prog) w 9 82 5 s Tryd.underlying9 Tryd.underlying82 Tryd.underlying5
  have hge := grownCap_ge w s.size 0 5
  have hle := grownCap_le_maxLen w s.size 0 5 (by unfold maxLen; omega)
  unfold maxLen at hle
  generalize grownCap w s.size 0 5 = cap at hcv hge hle
  have HB := Lib.hid (bytesWorld_below w 5 s)
  have hsz := Lib.bytesWorld_size w 5 s
  have HC := Lib.hid (fun j (hj : j < s.size) => Lib.bytesWorld_cell w 5 s j hj)
  generalize Lib.bytesWorld w 5 s = W1 at hcv HB hsz HC
  go_enter Tryd.func81, Tryd.ntmps81
  go_wp2_with fail
  go_loopw [4, 14, 5, 6, 7] (fun i _ _ _ _ wr => ∃ (j : Nat), j ≤ s.size ∧ i = .int .i64 j ∧ Hid (Lib.validD s.data.toList = Lib.validD (s.data.toList.drop j)) ∧ Below W1.heap.size W1 wr) (fun i _ _ _ _ _ => s.size - (intOf i).toNat)
  case atStart => exact ⟨0, Nat.zero_le _, rfl, rfl, Below.refl _ _⟩
  case round =>
    obtain ⟨j, hj, rfl, HV, hb⟩ := hrel
    have hbs := hb.size
    have HBB := Lib.hid (HB.out.trans (hb.mono (by omega)))
    have HLEN := Lib.hid (Lib.size_eq s)
    by_cases hlt : j < s.size
    · have hne : s.data.toList.drop j ≠ [] := by
        intro e
        have := congrArg List.length e
        simp only [List.length_drop, List.length_nil] at this; have := HLEN.out; omega
      have HG := Lib.hid (validD_gr _ hne)
      have HA := Lib.hid (grL_at s.data.toList j)
      have HL := Lib.hid (grL_cases _ hne)
      have cell : ∀ k, k < s.size → wr.cell? ⟨w.heap.size, 0 + k, none⟩ = some (.int .u8 (s.data.toList.getD k 0).toNat) := fun k hk => by rw [Nat.zero_add]; exact (hb.cell (by show w.heap.size < _; omega)).trans (HC.out k hk)
      have HK := Lib.hid cell; clear cell
      go_wp2_with fail
      refine (spec_GetRune s.size w.heap.size 0 cap j (s.data.toList.getD j 0).toNat (s.data.toList.getD (j + 1) 0).toNat (s.data.toList.getD (j + 2) 0).toNat (s.data.toList.getD (j + 3) 0).toNat wr hlt hge hle (by omega) (UInt8.toNat_lt _) (UInt8.toNat_lt _) (UInt8.toNat_lt _) (UInt8.toNat_lt _) (HK.out j hlt) (fun h => HK.out _ h) (fun h => HK.out _ h) (fun h => HK.out _ h)).mono ?_
      rw [show s.size - j = s.data.toList.length - j from by rw [HLEN.out], ← HA.out]
      rintro e w3 ⟨rfl, hb3⟩
      by_cases hz : (grL (s.data.toList.drop j)).2 = 0
      · have HE := Lib.hid (show Lib.validD s.data.toList = false from HV.out.trans (HG.out.trans (if_pos hz)))
        have hd : decide ((grL (s.data.toList.drop j)).2 ≠ 0) = false := decide_eq_false (fun h => h hz)
        rw [grV, hd]
        clear HV HG HL
        go_wp2_with fail
        go_ret
        exact ⟨by rw [HE.out]; rfl, HBB.out.trans (hb3.mono HBB.out.size)⟩
      · have HE := Lib.hid (show Lib.validD s.data.toList = Lib.validD (s.data.toList.drop (j + (grL (s.data.toList.drop j)).2)) from HV.out.trans (HG.out.trans ((if_neg hz).trans (by rw [List.drop_drop]))))
        have hd : decide ((grL (s.data.toList.drop j)).2 ≠ 0) = true := decide_eq_true hz
        have hk : (grL (s.data.toList.drop j)).2 ≤ s.size - j := by
          rcases HL.out with h | h
          · exact absurd h.1 hz
          · have := h.2.2.1; simp only [List.length_drop] at this; have := HLEN.out; omega
        have hif : (if (grL (s.data.toList.drop j)).2 = 0 then 0 else j + (grL (s.data.toList.drop j)).2) = j + (grL (s.data.toList.drop j)).2 := if_neg hz
        rw [grV, hd, hif]
        generalize grL (s.data.toList.drop j) = g at *
        clear HV HG HL hif
        go_wp2_with fail
        go_roundw
        case rel => exact ⟨j + g.2, by omega, by go_num, HE.out, hb.trans (hb3.mono hbs)⟩
        case measure => simp [intOf]; omega
    · have hjj : s.size = j := by omega
      have HE := Lib.hid (show Lib.validD s.data.toList = true from by rw [HV.out, List.drop_eq_nil_of_le (by have := HLEN.out; omega)]; rfl)
      go_wp2_with fail
      go_ret
      exact ⟨by rw [HE.out]; rfl, HBB.out⟩
/-- The two tables of utf8 stand, whatever is laid behind B. -/
def UtfBelow (B : Nat) (w : World) : Prop := ∀ w', Below B w w' → Lib.Utf8Tabs (Tryd.laysValid_ren.g 3) (Tryd.laysValid_ren.g 4) w'
theorem UtfBelow.step {B : Nat} {w w' : World} (h : UtfBelow B w) (hb : Below B w w') : UtfBelow B w' := fun v hv => h v (hb.trans hv)
theorem impl_TextOk (s : ByteArray) (w : World) (hs : s.size ≤ 4611686018427387903) (hT : Lib.Utf8Tabs (Tryd.laysValid_ren.g 3) (Tryd.laysValid_ren.g 4) w) :
    Calls Tryd.prog 117 #[.string s] w fun e w' => e = .returned (.bool (Lib.validD s.data.toList)) ∧ Below w.heap.size w w' := by
  have cV : Calls Tryd.prog 136 #[.string s] w _ := Any.utf8_ValidString Tryd.laysValid s w (by omega) hT
  generalize Lib.validD s.data.toList = V at cV ⊢
  go_enter Tryd.func117, Tryd.ntmps117
  go_wp2_with (go_at_call 136; refine cV.mono ?_; rintro e w' ⟨rfl, hb⟩)
  go_ret
  exact ⟨rfl, hb⟩
end Go.Proofs.YtfbgmhjjdgglnaaDoor
