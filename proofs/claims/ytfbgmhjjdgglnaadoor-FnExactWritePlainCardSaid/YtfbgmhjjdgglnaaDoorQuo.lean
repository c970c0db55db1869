/- Contracts and lemmas for the proofs of this seat: Quo. No condition beyond those stated. -/
import Derived.Test.YtfbgmhjjdgglnaaDoorRows
import Derived.WalkKit
import Derived.ProofKit
import Derived.OpenShut
import Derived.Handy
import Derived.Lib.Hide
import Derived.Lib.SmallJoins
import Derived.Laws.BytesArg
import Derived.Deep.RegionHeld3
import Derived.Deep.AppendLies
import Derived.Deep.RegionLaw
import Derived.Deep.QuietTactic
import Derived.BigQuiet
import Derived.Lib.ValidAsc
import Derived.Lib.ConvBytes
import Derived.Test.YtfbgmhjjdgglnaaDoorBase
import Derived.Test.YtfbgmhjjdgglnaaDoorGen
import Derived.Test.YtfbgmhjjdgglnaaDoorKit
import Derived.Test.YtfbgmhjjdgglnaaDoorMark
import Derived.Test.YtfbgmhjjdgglnaaDoorApp
import Derived.Test.YtfbgmhjjdgglnaaDoorMarkV
import Derived.Test.YtfbgmhjjdgglnaaDoorLawVal
import Derived.Test.YtfbgmhjjdgglnaaDoorCopy
import Derived.Test.YtfbgmhjjdgglnaaDoorPathAt
import Derived.Test.YtfbgmhjjdgglnaaDoorPathAt2
import Derived.Test.YtfbgmhjjdgglnaaDoorSame2
import Derived.Test.YtfbgmhjjdgglnaaDoorOnce
import Derived.Test.YtfbgmhjjdgglnaaDoorKeepX
import Derived.Test.YtfbgmhjjdgglnaaDoorAppX
import Derived.Test.YtfbgmhjjdgglnaaDoorNamesT
import Derived.Test.YtfbgmhjjdgglnaaDoorShelf
import Derived.Test.YtfbgmhjjdgglnaaDoorTextF
import Derived.Test.YtfbgmhjjdgglnaaDoorValF
import Derived.Test.YtfbgmhjjdgglnaaDoorRune
import Derived.Test.YtfbgmhjjdgglnaaDoorRune2
import Derived.Test.YtfbgmhjjdgglnaaDoorHexT
import Derived.Test.YtfbgmhjjdgglnaaDoorPutR
import Derived.Test.YtfbgmhjjdgglnaaDoorEsc
namespace Go.Proofs.YtfbgmhjjdgglnaaDoor
open Go.ChangeShapes Go.WideShapes Go.ChangeAt Go.RowKit Go.Joins
set_option linter.unusedVariables false
set_option maxRecDepth 100000
/-- The characters of a text. -/
def runesG : Nat → List UInt8 → List Int
  | 0, _ => []
  | f + 1, l => if l = [] then [] else ((grL l).1 : Int) :: runesG f (l.drop (grL l).2)
def runesT (s : ByteArray) : List Int := runesG s.size s.data.toList
theorem runesG_nil (f : Nat) : runesG f [] = [] := by cases f <;> simp [runesG]
theorem runesG_cons (f : Nat) (l : List UInt8) (h : l ≠ []) : runesG (f + 1) l = ((grL l).1 : Int) :: runesG f (l.drop (grL l).2) := by rw [runesG, if_neg h]
theorem grW_small (n b0 b1 b2 b3 : Nat) (h1 : b1 < 256) (h2 : b2 < 256) (h3 : b3 < 256) : (grW n b0 b1 b2 b3).1 ≤ 2097151 := by
  unfold grW
  repeat' split
  all_goals simp only [] <;> omega
theorem grL_small (l : List UInt8) : (grL l).1 ≤ 2097151 := grW_small _ _ _ _ _ (UInt8.toNat_lt _) (UInt8.toNat_lt _) (UInt8.toNat_lt _)
theorem info_Int2 : (Tryd.prog.info? 3).map (fun i => (i.zero, i.size, i.bytes)) = some (some (.int .i64 0), 1, 8) := by kernel_rfl
set_option maxHeartbeats 4000000 in
theorem spec_RunesOf (s : ByteArray) (w : World) (hs : s.size ≤ 1048576) (hv : Lib.validD s.data.toList = true) :
    Calls Tryd.prog 126 #[.string s] w fun e w' => ∃ a' cap', e = .returned (.slice a' (runesT s).length cap') ∧ Rd EInt 1 w' w'.heap.size a' cap' (runesT s) ∧ Below w.heap.size w w' := by
  have HV0 := Lib.hid hv; clear hv
  have h0 := AppL.empty (E := EInt) (n := 1) (e := 3) w w.heap.size (Nat.le_refl _)
  go_enter Tryd.func126, Tryd.ntmps126
  go_wp2_with fail
  refine (spec_TextOk s _ (by omega)).mono ?_
  rintro e w1 ⟨rfl, hb1⟩
  rw [HV0.out]
  have hs1 := hb1.size
  have HB1 := Lib.hid (below_step (below1 w (.cells #[] 3)) hb1 (by simp))
  have HA1 := Lib.hid (h0.agree EInt.elem (fun f hf => hb1.block f hf) (by simp))
  have hs1' : w.heap.size < w1.heap.size := by simp at hs1; omega
  clear hb1 h0 hs1
  have hcv := Lib.run_convert_string_bytes (P := Tryd.prog) w1 9 82 5 s Tryd.underlying9 Tryd.underlying82 Tryd.underlying5
  have hge := grownCap_ge w1 s.size 0 5
  have hle := grownCap_le_maxLen w1 s.size 0 5 (by unfold maxLen; omega)
  unfold maxLen at hle
  generalize grownCap w1 s.size 0 5 = cap at hcv hge hle
  have HB := Lib.hid (bytesWorld_below w1 5 s)
  have hsz := Lib.bytesWorld_size w1 5 s
  have HC := Lib.hid (fun j (hj : j < s.size) => Lib.bytesWorld_cell w1 5 s j hj)
  generalize Lib.bytesWorld w1 5 s = W1 at hcv HB hsz HC
  have HA2 := Lib.hid (HA1.out.agree EInt.elem (fun f hf => HB.out.block f hf) (by omega))
  have hsW : w1.heap.size < W1.heap.size := by omega
  have HBW := Lib.hid (HB1.out.trans (HB.out.mono (by omega)))
  have HLEN := Lib.hid (Lib.size_eq s)
  go_wp2_with fail
  go_loopw [3, 5, 20, 6, 7, 8] (fun q i _ _ _ _ wr => ∃ (j f : Nat) (ar : Option Addr) (cr : Nat) (L : List Int), j ≤ s.size ∧ i = .int .i64 j ∧ q = .slice ar L.length cr ∧ AppL EInt 1 3 wr w.heap.size ar cr L [] ∧ (∀ k, (Value.slice ar L.length cr).ownBlock = some k → k ≠ w1.heap.size) ∧ L.length ≤ j ∧ s.size - j ≤ f ∧ Hid (runesT s = L ++ runesG f (s.data.toList.drop j)) ∧ Hid (Lib.validD (s.data.toList.drop j) = true) ∧ wr.heap[w1.heap.size]? = W1.heap[w1.heap.size]? ∧ Below w.heap.size w wr ∧ W1.heap.size ≤ wr.heap.size) (fun _ i _ _ _ _ _ => s.size - (intOf i).toNat)
  case atStart => exact ⟨0, s.size, _, _, [], Nat.zero_le _, rfl, rfl, HA2.out, fun k hk => by simp [Value.ownBlock] at hk; omega, by simp, by omega, rfl, by rw [List.drop_zero]; exact HV0.out, rfl, HBW.out, Nat.le_refl _⟩
  case round =>
    obtain ⟨j, f, ar, cr, L, hj, rfl, rfl, happ, hown, hLj, hf, HR, HVJ, hblk, hb, hsw⟩ := hrel
    have HA := Lib.hid happ; clear happ
    have HO := Lib.hid hown; clear hown
    by_cases hlt : j < s.size
    · obtain ⟨f', rfl⟩ : ∃ f', f = f' + 1 := ⟨f - 1, by omega⟩
      have hne : s.data.toList.drop j ≠ [] := by
        intro e
        have := congrArg List.length e
        simp only [List.length_drop, List.length_nil] at this; have := HLEN.out; omega
      have HG := Lib.hid (validD_gr _ hne)
      have HAt := Lib.hid (grL_at s.data.toList j)
      have HL := Lib.hid (grL_cases _ hne)
      have hz : (grL (s.data.toList.drop j)).2 ≠ 0 := by
        intro h
        have h1 := HG.out
        rw [if_pos h, HVJ.out] at h1
        cases h1
      have cell : ∀ k, k < s.size → wr.cell? ⟨w1.heap.size, 0 + k, none⟩ = some (.int .u8 (s.data.toList.getD k 0).toNat) := fun k hk => by rw [Nat.zero_add]; exact (World.cell?_of_block (w := W1) (a := ⟨w1.heap.size, k, none⟩) hblk).trans (HC.out k hk)
      have HK := Lib.hid cell; clear cell
      have HBL := Lib.hid hblk; clear hblk
      go_wp2_with fail
      refine (spec_GetRune s.size w1.heap.size 0 cap j (s.data.toList.getD j 0).toNat (s.data.toList.getD (j + 1) 0).toNat (s.data.toList.getD (j + 2) 0).toNat (s.data.toList.getD (j + 3) 0).toNat wr hlt hge hle (by omega) (UInt8.toNat_lt _) (UInt8.toNat_lt _) (UInt8.toNat_lt _) (UInt8.toNat_lt _) (HK.out j hlt) (fun h => HK.out _ h) (fun h => HK.out _ h) (fun h => HK.out _ h)).mono ?_
      rw [show s.size - j = s.data.toList.length - j from by rw [HLEN.out], ← HAt.out]
      rintro e w3 ⟨rfl, hb3⟩
      have hd : decide ((grL (s.data.toList.drop j)).2 ≠ 0) = true := decide_eq_true hz
      have hk : (grL (s.data.toList.drop j)).2 ≤ s.size - j := by
        rcases HL.out with h | h
        · exact absurd h.1 hz
        · have := h.2.2.1; simp only [List.length_drop] at this; have := HLEN.out; omega
      have hif : (if (grL (s.data.toList.drop j)).2 = 0 then 0 else j + (grL (s.data.toList.drop j)).2) = j + (grL (s.data.toList.drop j)).2 := if_neg hz
      have HRN := Lib.hid (show runesT s = (L ++ [((grL (s.data.toList.drop j)).1 : Int)]) ++ runesG f' (s.data.toList.drop (j + (grL (s.data.toList.drop j)).2)) from by
        rw [HR.out, runesG_cons f' _ hne, List.drop_drop, List.append_assoc]; rfl)
      have HVN := Lib.hid (show Lib.validD (s.data.toList.drop (j + (grL (s.data.toList.drop j)).2)) = true from by
        have h1 := HG.out
        rw [if_neg hz, HVJ.out, List.drop_drop] at h1
        exact h1.symm)
      have hsm := grL_small (s.data.toList.drop j)
      rw [grV, hd, hif]
      have HZ := Lib.hid hz
      have HA3 := Lib.hid (HA.out.agree EInt.elem (fun f hf => hb3.block f hf) (by omega))
      have HBL3 := Lib.hid ((hb3.block w1.heap.size (by omega)).trans HBL.out)
      have hs3 := hb3.size
      have HB3 := Lib.hid (hb.trans (hb3.mono hb.size))
      have hO1 := HO.out
      have HO3 := Lib.hid (fun k hk => (HA3.out.row k hk).2)
      generalize grL (s.data.toList.drop j) = g at *
      clear HG HL hif hd hb3 hne HAt
      have HN := Lib.hid (HA3.out.agree EInt.elem (fun f hf => (below1 w3 (.cells #[.int .i64 (g.1 : Int)] 3)).block f hf) (by have := HB3.out.size; omega))
      have hL63 : L.length + 1 ≤ 1048577 := by omega
      clear hO1
      go_wp2_with (at_builtin; refine wpList_appX EInt.elem rfl _ _ 129 rfl (.int .i64 0) 8 Tryd.underlying129 info_Int2 rfl w.heap.size ar cr L [] rfl HN.out (by have := HB3.out.size; simp; omega) w3.heap.size 0 1 1 [(g.1 : Int)] [] rfl rfl ⟨[], [], rfl, ⟨rfl, (Is.new w3 #[.int .i64 (g.1 : Int)] 3).cell 0 rfl, ⟨by omega, by omega⟩⟩, rfl⟩ (by simp) (by omega) (by unfold maxLen; omega) (by omega) ?_; intro ar2 cr2 w4 happ4 hb4 hout4 hown4 hsz4)
      go_roundw
      case rel => exact ⟨j + g.2, f', ar2, cr2, L ++ [(g.1 : Int)], by omega, by go_num, by rw [List.length_append]; rfl, happ4, fun k hk => by
          rcases hown4 k hk with h | h
          · exact HO.out k h
          · simp at h; omega, by rw [List.length_append]; simp; have := HZ.out; omega, by have := HZ.out; omega, HRN.out, HVN.out, (hout4 w1.heap.size (by simp; omega) (fun k hk => fun e => HO.out k hk e.symm)).trans (((below1 w3 _).block w1.heap.size (by omega)).trans HBL3.out), (HB3.out.trans ((below1 w3 _).mono HB3.out.size)).trans hb4, by simp at hsz4; omega⟩
      case measure => simp [intOf]; have := HZ.out; omega
    · have hjj : s.size = j := by omega
      have HD := Lib.hid (show runesT s = L from by rw [HR.out, List.drop_eq_nil_of_le (by have := HLEN.out; omega), runesG_nil, List.append_nil])
      go_wp2_with fail
      go_ret
      exact ⟨ar, cr, by rw [HD.out]; rfl, by rw [HD.out]; exact HA.out.read (by omega), hb⟩
theorem runesG_len (f : Nat) : ∀ l, (runesG f l).length ≤ f := by
  induction f with
  | zero => intro l; simp [runesG]
  | succ f ih =>
    intro l
    rw [runesG]
    split
    · simp
    · simp only [List.length_cons]; have := ih (l.drop (grL l).2); omega
theorem escT_size (n : Int) : (escT n).size ≤ 12 := by
  have h1 := enc_size n
  have h2 := hexT_size (Utf8.encode n)
  have h3 : (⟨#[92, 117, 48, 48]⟩ : ByteArray).size = 4 := rfl
  unfold escT
  repeat' split
  all_goals first | decide | (rw [ByteArray.size_append]; omega) | omega
def escF (l : List Int) : Nat → ByteArray
  | 0 => ⟨#[]⟩
  | j + 1 => escF l j ++ escT (l.getD j 0)
theorem escF_succ (l : List Int) (j : Nat) (h : j < l.length) : escF l (j + 1) = escF l j ++ escT l[j] := by
  rw [escF, List.getD_eq_getElem?_getD, List.getElem?_eq_getElem h]; rfl
/-- A text in quotes. -/
def quoteT (s : ByteArray) : ByteArray := if Lib.validD s.data.toList = true then (⟨#[34]⟩ ++ escF (runesT s) (runesT s).length) ++ ⟨#[34]⟩ else ⟨#[]⟩
set_option maxHeartbeats 2000000 in
theorem spec_Quote (s : ByteArray) (w : World) (hs : s.size ≤ 1048576) :
    Calls Tryd.prog 104 #[.string s] w fun e w' => e = .returned (.string (quoteT s)) ∧ Below w.heap.size w w' := by
  by_cases hv : Lib.validD s.data.toList = true
  · have HD := Lib.hid (show quoteT s = (⟨#[34]⟩ ++ escF (runesT s) (runesT s).length) ++ ⟨#[34]⟩ from if_pos hv)
    have hlr : (runesT s).length ≤ 1048576 := by have := runesG_len s.size s.data.toList; unfold runesT; omega
    have HV := Lib.hid hv; clear hv
    go_enter Tryd.func104, Tryd.ntmps104
    go_wp2_with fail
    refine (spec_TextOk s _ (by omega)).mono ?_
    rintro e w1 ⟨rfl, hb1⟩
    rw [HV.out]
    go_wp2_with fail
    refine (spec_RunesOf s _ hs HV.out).mono ?_
    rintro e w2 ⟨a2, c2, rfl, hr2, hb2⟩
    have HB2 := Lib.hid (hb1.trans (hb2.mono hb1.size)); clear hb1 hb2
    have HR2 := Lib.hid hr2
    obtain ⟨hc1, hc2⟩ := hr2.len
    clear hr2
    have z34 : (⟨#[34]⟩ : ByteArray).size = 1 := rfl
    generalize runesT s = l at *
    go_wp2_with fail
    go_loopw [3, 5] (fun q i wr => ∃ (j : Nat) (o : ByteArray), j ≤ l.length ∧ i = .int .i64 j ∧ q = .string o ∧ Hid (o = ⟨#[34]⟩ ++ escF l j) ∧ o.size ≤ 1 + 12 * j ∧ Below w2.heap.size w2 wr) (fun _ i _ => l.length - (intOf i).toNat)
    case atStart => exact ⟨0, ⟨#[34]⟩, Nat.zero_le _, rfl, rfl, rfl, by omega, Below.refl _ _⟩
    case round =>
      obtain ⟨j, o, hj, rfl, rfl, HO, hos, hb⟩ := hrel
      have hbs := hb.size
      by_cases hlt : j < l.length
      · obtain ⟨b, o2, rfl, hbl, d0, hi⟩ := (HR2.out.below EInt.elem.loc hb (Nat.le_refl _)).int j hlt
        have hlb : b < wr.heap.size := by omega
        have hez := escT_size l[j]
        have HE := Lib.hid (show o ++ escT l[j] = ⟨#[34]⟩ ++ escF l (j + 1) from by rw [HO.out, escF_succ l j hlt, ByteArray.append_assoc])
        have HI := Lib.hid hi; clear hi
        go_wp2_with fail
        refine (spec_EscapeOf l[j] _ HI.out).mono ?_
        rintro e w3 ⟨rfl, hb3⟩
        go_wp2_with fail
        go_roundw
        case rel => exact ⟨j + 1, _, by omega, by go_num, rfl, HE.out, by rw [ByteArray.size_append]; omega, hb.trans (hb3.mono hbs)⟩
        case measure => simp [intOf]; omega
      · have hjj : l.length = j := by omega
        have HE := Lib.hid (show quoteT s = o ++ ⟨#[34]⟩ from by rw [HD.out, HO.out, hjj]); clear hjj
        go_wp2_with fail
        go_ret
        exact ⟨ret_s HE.out.symm, HB2.out.trans (hb.mono HB2.out.size)⟩
  · have HD := Lib.hid (show quoteT s = ⟨#[]⟩ from if_neg hv)
    have HV := Lib.hid (show Lib.validD s.data.toList = false from by simpa using hv); clear hv
    go_enter Tryd.func104, Tryd.ntmps104
    go_wp2_with fail
    refine (spec_TextOk s _ (by omega)).mono ?_
    rintro e w1 ⟨rfl, hb1⟩
    rw [HV.out]
    go_wp2_with fail
    go_ret
    exact ⟨ret_s HD.out.symm, hb1⟩
end Go.Proofs.YtfbgmhjjdgglnaaDoor
