/- Texts of this proof, merged: Less, Tig1, Tig2, Tig3, Tig5, TigM, Tig6, Tig7, Less2, Pack2, Pack3, Pack4, Tig8, PText, PutR, Esc, Quo, DecT, WriA, Quo2, WriT, WriP, WriX, FitsW, WriW, LawsE, DrwB, LeafB. No condition beyond what each theorem states. -/
import Derived.Test.YtohfljaaaojjmaaGreatDoorRows
import Derived.WalkKit
import Derived.ProofKit
import Derived.OpenShut
import Derived.Handy
import Derived.Lib.Hide
import Derived.Lib.SmallJoins
import Derived.Deep.RegionHeld3
import Derived.Deep.QuietTactic
import Derived.BigQuiet
import Derived.Test.YtohfljaaaojjmaaGreatDoorZK1
import Derived.Test.YtohfljaaaojjmaaGreatDoorZK2
import Derived.Test.YtohfljaaaojjmaaGreatDoorZK5
import Derived.Test.YtohfljaaaojjmaaGreatDoorZK6
import Derived.Test.YtohfljaaaojjmaaGreatDoorZK3
import Derived.Test.YtohfljaaaojjmaaGreatDoorZK4
import Derived.Laws.Bits64
import Derived.Laws.Bits64b
import Derived.Deep.CutBlock
import Derived.Deep.DeepCutAuto
import Derived.Test.YtohfljaaaojjmaaGreatDoorZK7
import Derived.Lib.AppendStr
import Derived.Lib.AppendZeros
import Derived.Test.YtohfljaaaojjmaaGreatDoorZK9
import Derived.Test.YtohfljaaaojjmaaGreatDoorZK12
import Derived.Deep.AppendLies
import Derived.Deep.RegionLaw
import Derived.Test.YtohfljaaaojjmaaGreatDoorShelf
import Derived.Lib.Bytealg
import Derived.Lib.Bytes
import Derived.Lib.BytesEntry
import Derived.Laws.Externs
import Derived.Deep.RegionWith
import Derived.Test.YtohfljaaaojjmaaGreatDoorZK10
import Derived.Lib.AppendIntMem
import Derived.Lib.ItoaLen
import Derived.Laws.BytesArg
import Derived.Lib.ValidAsc
import Derived.Lib.ConvBytes
import Derived.Lib.ItoaNum
import Derived.Test.YtohfljaaaojjmaaGreatDoorZK8
import Derived.Lib.OthersKept
import Derived.Laws.RangeString
import Derived.Laws.RangeAny
set_option linter.unusedSimpArgs false
set_option linter.unnecessarySimpa false
namespace Go.Proofs.YtohfljaaaojjmaaGreatDoor
open Go.ChangeShapes Go.WideShapes Go.ChangeAt Go.RowKit Go.Joins
set_option linter.unusedVariables false
set_option maxRecDepth 100000
end Go.Proofs.YtohfljaaaojjmaaGreatDoor
namespace Go.Proofs.YtohfljaaaojjmaaGreatDoor
open Go.ChangeShapes Go.WideShapes Go.ChangeAt Go.RowKit Go.Joins
set_option linter.unusedVariables false
set_option maxRecDepth 100000
end Go.Proofs.YtohfljaaaojjmaaGreatDoor
namespace Go.Proofs.YtohfljaaaojjmaaGreatDoor
open Go.ChangeShapes Go.WideShapes Go.ChangeAt Go.RowKit Go.Joins
set_option linter.unusedVariables false
set_option maxRecDepth 100000
end Go.Proofs.YtohfljaaaojjmaaGreatDoor
namespace Go.Proofs.YtohfljaaaojjmaaGreatDoor
open Go.ChangeShapes Go.WideShapes Go.ChangeAt Go.RowKit Go.Joins
set_option linter.unusedVariables false
set_option maxRecDepth 100000
end Go.Proofs.YtohfljaaaojjmaaGreatDoor
namespace Go.Proofs.YtohfljaaaojjmaaGreatDoor
open Go.ChangeShapes Go.WideShapes Go.ChangeAt Go.RowKit Go.Joins
set_option linter.unusedVariables false
set_option maxRecDepth 100000
end Go.Proofs.YtohfljaaaojjmaaGreatDoor
namespace Go.Proofs.YtohfljaaaojjmaaGreatDoor
open Go.ChangeShapes Go.WideShapes Go.ChangeAt Go.RowKit Go.Joins
set_option linter.unusedVariables false
set_option maxRecDepth 100000
end Go.Proofs.YtohfljaaaojjmaaGreatDoor
namespace Go.Proofs.YtohfljaaaojjmaaGreatDoor
open Go.ChangeShapes Go.WideShapes Go.ChangeAt Go.RowKit Go.Joins
set_option linter.unusedVariables false
set_option maxRecDepth 100000
/- (Calls Tryz.prog 28) -/
end Go.Proofs.YtohfljaaaojjmaaGreatDoor
namespace Go.Proofs.YtohfljaaaojjmaaGreatDoor
open Go.ChangeShapes Go.WideShapes Go.ChangeAt Go.RowKit Go.Joins
set_option linter.unusedVariables false
set_option maxRecDepth 100000
end Go.Proofs.YtohfljaaaojjmaaGreatDoor
namespace Go.Proofs.YtohfljaaaojjmaaGreatDoor
open Go.ChangeShapes Go.WideShapes Go.ChangeAt Go.RowKit Go.Joins
set_option linter.unusedVariables false
set_option maxRecDepth 100000
end Go.Proofs.YtohfljaaaojjmaaGreatDoor
namespace Go.Proofs.YtohfljaaaojjmaaGreatDoor
open Go.ChangeShapes Go.WideShapes Go.ChangeAt Go.RowKit Go.Joins
set_option linter.unusedVariables false
set_option maxRecDepth 100000
/-- The packer at block g holds these bytes; it is neither wide nor open. -/
def Pk (w : World) (g : Nat) (b : List Int) : Prop := ∃ (a : Option Addr) (cap : Nat), Is w g 48 #[.slice a b.length cap, .bool false, .bool false] ∧ AppL EByte 1 5 w (g + 1) a cap b []
theorem Pk.lt {w : World} {g : Nat} {b : List Int} (h : Pk w g b) : g < w.heap.size := by obtain ⟨_, _, h, _⟩ := h; exact h.lt
theorem Pk.below {w w' : World} {g : Nat} {b : List Int} (h : Pk w g b) (hb : Below w.heap.size w w') : Pk w' g b := by
  have hl := h.lt
  obtain ⟨a, cap, h1, h2⟩ := h
  exact ⟨a, cap, h1.below hb hl, h2.agree EByte.elem (fun f hf => hb.block f hf) (by omega)⟩
/-- The field of the packer's bytes is stored anew. -/
theorem Pk.stored {w : World} {g : Nat} {b b' : List Int} {a a' : Option Addr} {cap cap' : Nat} (h : Is w g 48 #[.slice a b.length cap, .bool false, .bool false]) (h2 : AppL EByte 1 5 w (g + 1) a' cap' b' []) : Pk (w.setCell ⟨g, 0, none⟩ (.slice a' b'.length cap')) g b' :=
  ⟨a', cap', h.set 0 _, h2.agreeB EByte.elem (fun f hf _ => heap_miss _ _ _ _ (by omega) _)⟩
end Go.Proofs.YtohfljaaaojjmaaGreatDoor
namespace Go.Proofs.YtohfljaaaojjmaaGreatDoor
open Go.ChangeShapes Go.WideShapes Go.ChangeAt Go.RowKit Go.Joins
set_option linter.unusedVariables false
set_option maxRecDepth 100000
end Go.Proofs.YtohfljaaaojjmaaGreatDoor
namespace Go.Proofs.YtohfljaaaojjmaaGreatDoor
open Go.ChangeShapes Go.WideShapes Go.ChangeAt Go.RowKit Go.Joins
set_option linter.unusedVariables false
set_option maxRecDepth 100000
end Go.Proofs.YtohfljaaaojjmaaGreatDoor
namespace Go.Proofs.YtohfljaaaojjmaaGreatDoor
open Go.ChangeShapes Go.WideShapes Go.ChangeAt Go.RowKit Go.Joins
set_option linter.unusedVariables false
set_option maxRecDepth 100000
end Go.Proofs.YtohfljaaaojjmaaGreatDoor
namespace Go.Proofs.YtohfljaaaojjmaaGreatDoor
open Go.ChangeShapes Go.WideShapes Go.ChangeAt Go.RowKit Go.Joins
set_option linter.unusedVariables false
set_option maxRecDepth 100000
theorem numT_size {n : Int} (h : I64 n) : (numT n).size ≤ 21 := by
  have := Lib.itoa_length_le n h.1 h.2
  unfold numT
  simpa [ByteArray.size] using this
end Go.Proofs.YtohfljaaaojjmaaGreatDoor
namespace Go.Proofs.YtohfljaaaojjmaaGreatDoor
open Go.ChangeShapes Go.WideShapes Go.ChangeAt Go.RowKit Go.Joins
set_option linter.unusedVariables false
set_option maxRecDepth 100000
/-- The bytes of a character. -/
def encN (n : Int) : List Int :=
  if n < 128 then [n] else if n < 2048 then [192 + n / 64, 128 + n % 64] else if n < 65536 then [224 + n / 4096, 128 + n / 64 % 64, 128 + n % 64] else [240 + n / 262144, 128 + n / 4096 % 64, 128 + n / 64 % 64, 128 + n % 64]
end Go.Proofs.YtohfljaaaojjmaaGreatDoor
namespace Go.Proofs.YtohfljaaaojjmaaGreatDoor
open Go.ChangeShapes Go.WideShapes Go.ChangeAt Go.RowKit Go.Joins
set_option linter.unusedVariables false
set_option maxRecDepth 100000
end Go.Proofs.YtohfljaaaojjmaaGreatDoor
namespace Go.Proofs.YtohfljaaaojjmaaGreatDoor
open Go.ChangeShapes Go.WideShapes Go.ChangeAt Go.RowKit Go.Joins
set_option linter.unusedVariables false
set_option maxRecDepth 100000
end Go.Proofs.YtohfljaaaojjmaaGreatDoor
namespace Go.Proofs.YtohfljaaaojjmaaGreatDoor
open Go.ChangeShapes Go.WideShapes Go.ChangeAt Go.RowKit Go.Joins
set_option linter.unusedVariables false
set_option maxRecDepth 100000
/-- The digits of a number, without its sign. -/
def digT (n : Int) : ByteArray := ⟨(Lib.decDigits n.natAbs).toArray⟩
theorem digT_size (n : Int) : (digT n).size = digN n := by
  rw [Lib.size_eq]; exact Lib.decDigits_length _
theorem numT_neg {n : Int} (h : n < 0) : numT n = ⟨#[45]⟩ ++ digT n := by
  unfold numT Lib.itoa digT; rw [if_pos h]; apply ByteArray.ext; simp [ByteArray.data_append]
theorem numT_pos {n : Int} (h : ¬ n < 0) : numT n = digT n := by
  unfold numT Lib.itoa digT; rw [if_neg h, show n.toNat = n.natAbs from by omega]
theorem numT_tail {n : Int} (h : n < 0) : (numT n).extract 1 (numT n).size = digT n := by
  apply ByteArray.ext; apply Array.ext'
  rw [Lib.ext_list]
  unfold numT Lib.itoa digT; rw [if_pos h]; simp
/-- Zeros ahead, until there are more than m digits. -/
def padZ : Nat → Nat → ByteArray → ByteArray
  | 0, _, s => s
  | f + 1, m, s => if s.size ≤ m then padZ f m (⟨#[48]⟩ ++ s) else s
theorem padZ_more (f m : Nat) (s : ByteArray) (h : s.size ≤ m) : padZ (f + 1) m s = padZ f m (⟨#[48]⟩ ++ s) := by rw [padZ, if_pos h]
theorem padZ_done (f m : Nat) (s : ByteArray) (h : ¬ s.size ≤ m) : padZ f m s = s := by
  cases f with
  | zero => rfl
  | succ f => rw [padZ, if_neg h]
def decBody (n : Int) (m : Nat) : ByteArray := ((padZ 60 m (digT n)).extract 0 ((padZ 60 m (digT n)).size - m) ++ ⟨#[46]⟩) ++ (padZ 60 m (digT n)).extract ((padZ 60 m (digT n)).size - m) (padZ 60 m (digT n)).size
/-- The text of n times 10 to the -m. -/
def decTx (n : Int) (m : Nat) : ByteArray := if ¬ decOk n (-(m : Int)) then ⟨#[]⟩ else if m = 0 then numT n else if n < 0 then ⟨#[45]⟩ ++ decBody n m else decBody n m
def strSz : Value → Nat | .string s => s.size | _ => 0
theorem padZ_size (f m : Nat) : ∀ s : ByteArray, (padZ f m s).size ≤ s.size + f := by
  induction f with
  | zero => intro s; simp [padZ]
  | succ f ih =>
    intro s
    rw [padZ]
    split
    · have := ih (⟨#[48]⟩ ++ s)
      rw [ByteArray.size_append] at this
      have h1 : (⟨#[48]⟩ : ByteArray).size = 1 := rfl
      omega
    · omega
set_option maxHeartbeats 4000000 in
theorem spec_DecText (n : Int) (m : Nat) (w : World) (hn : I64 n) (hm : m ≤ 40) :
    Calls Tryz.prog 95 #[.agg (cF n (-(m : Int)))] w fun e w' => e = .returned (.string (decTx n m)) ∧ Below w.heap.size w w' := by
  have HN := Lib.hid hn
  obtain ⟨hn0, hn1⟩ := hn
  have H0 := Lib.hid (below1 w (.cells (cF n (-(m : Int))) 90))
  have q0 := Is.new w (cF n (-(m : Int))) 90
  have lg : w.heap.size < (w.alloc (.cells (cF n (-(m : Int))) 90)).heap.size := by simp
  go_enter Tryz.func95, Tryz.ntmps95
  go_wp2_with fail
  refine (spec_DecOk n (-(m : Int)) _ HN.out ⟨by omega, by omega⟩).mono ?_
  rintro e w2 ⟨rfl, hb2⟩
  have hl2 : w.heap.size < w2.heap.size := Nat.lt_of_lt_of_le lg hb2.size
  have p2 := q0.below hb2 lg
  obtain ⟨x0, x1⟩ := p2.cells2b
  have HB2 := Lib.hid (below_step H0.out hb2 (by simp)); clear hb2
  by_cases hok : decOk n (-(m : Int))
  · rw [decide_eq_true hok]
    by_cases h0 : m = 0
    · have HD := Lib.hid (show decTx n m = numT n from (if_neg (fun h => h hok)).trans (if_pos h0))
      subst h0
      clear hok
      go_wp2_with fail
      refine (spec_NumText n _ HN.out).mono ?_
      rintro e w3 ⟨rfl, hb3⟩
      go_wp2_with fail
      go_ret
      exact ⟨ret_s HD.out.symm, HB2.out.trans (hb3.mono HB2.out.size)⟩
    · have hd17 : digN n ≤ 17 := by
        rcases hok with h | h
        · omega
        · exact h.2.2.1
      have hdz := digT_size n
      have HD := Lib.hid (show decTx n m = if n < 0 then ⟨#[45]⟩ ++ decBody n m else decBody n m from (if_neg (fun h => h hok)).trans (if_neg h0))
      have h0' : ¬ (-(m : Int)) = 0 := by omega
      have z45 : (⟨#[45]⟩ : ByteArray).size = 1 := rfl
      have z46 : (⟨#[46]⟩ : ByteArray).size = 1 := rfl
      have z48 : (⟨#[48]⟩ : ByteArray).size = 1 := rfl
      clear hok h0
      go_wp2_with fail
      refine (spec_NumText n _ HN.out).mono ?_
      rintro e w3 ⟨rfl, hb3⟩
      have hl3 : w.heap.size < w3.heap.size := Nat.lt_of_lt_of_le hl2 hb3.size
      have p3 := p2.below hb3 hl2
      obtain ⟨y0, y1⟩ := p3.cells2b
      have HB3 := Lib.hid (HB2.out.trans (hb3.mono HB2.out.size)); clear hb3
      have HS : ∃ sg : ByteArray, sg.size ≤ 1 ∧ ((n < 0 ∧ sg = ⟨#[45]⟩ ∧ numT n = ⟨#[45]⟩ ++ digT n) ∨ (¬ n < 0 ∧ sg = ⟨#[]⟩ ∧ numT n = digT n)) := by
        by_cases h : n < 0
        · exact ⟨_, by omega, .inl ⟨h, rfl, numT_neg h⟩⟩
        · exact ⟨⟨#[]⟩, by simp [ByteArray.size], .inr ⟨h, rfl, numT_pos h⟩⟩
      obtain ⟨sg, hsg, ⟨hng, hsg2, hnm⟩ | ⟨hng, hsg2, hnm⟩⟩ := HS
      all_goals
        have hns : (numT n).size ≤ 18 := by rw [hnm]; first | (rw [ByteArray.size_append]; omega) | omega
        have hns1 : 1 ≤ (numT n).size := by rw [hnm]; first | (rw [ByteArray.size_append]; omega) | (rw [hdz, digN_eq]; omega)
        first
          | have HTL := Lib.hid (numT_tail hng)
          | have HTL := Lib.hid hnm
        clear hnm
        have HFIN : Hid (∀ d : ByteArray, padZ 60 m (digT n) = d → decTx n m = ((sg ++ d.extract 0 (d.size - m)) ++ ⟨#[46]⟩) ++ d.extract (d.size - m) d.size) := by
          intro d hd
          rw [HD.out, hsg2]
          first
            | rw [if_pos hng]
            | rw [if_neg hng]
          unfold decBody
          rw [hd]
          apply ByteArray.ext
          simp [ByteArray.data_append]
        have HEQ := Lib.hid hsg2
        clear hsg2 HD
        go_wp2_with fail
        try rw [HTL.out]
        rw [← HEQ.out]
        clear HEQ HTL hns hns1 hng
        go_loopw [3] (fun s wr => ∃ (d : ByteArray) (f : Nat), s = .string d ∧ f + d.size = 60 + digN n ∧ d.size ≤ 41 ∧ Hid (padZ 60 m (digT n) = padZ f m d) ∧ Below w3.heap.size w3 wr) (fun s _ => 60 - strSz s)
        case atStart => exact ⟨digT n, 60, rfl, by omega, by omega, rfl, Below.refl _ _⟩
        case round =>
          obtain ⟨d, f, rfl, hf, hd41, HP, hb⟩ := hrel
          have hl4 : w.heap.size < wr.heap.size := Nat.lt_of_lt_of_le hl3 hb.size
          have p4 := p3.below hb hl3
          obtain ⟨v0, v1⟩ := p4.cells2b
          by_cases hgo : d.size ≤ m
          · obtain ⟨f', rfl⟩ : ∃ f', f = f' + 1 := ⟨f - 1, by omega⟩
            have HE := Lib.hid (HP.out.trans (padZ_more f' m d hgo))
            go_wp2_with fail
            go_roundw
            case rel => exact ⟨_, f', rfl, by rw [ByteArray.size_append]; omega, by rw [ByteArray.size_append]; omega, HE.out, hb⟩
            case measure => simp only [strSz, ByteArray.size_append]; first | omega | (simp [strSz]; omega)
          · have HE := Lib.hid (HFIN.out d (HP.out.trans (padZ_done f m d hgo)))
            have hsub : (d.size : Int) + -(m : Int) = ((d.size - m : Nat) : Int) := by omega
            have hx1 : (d.extract 0 (d.size - m)).size ≤ 41 := by rw [ByteArray.size_extract]; omega
            have hx2 : (d.extract (d.size - m) d.size).size ≤ 41 := by rw [ByteArray.size_extract]; omega
            clear HP HFIN
            go_wp2_with fail
            go_quiet (fail)
            go_wp2_with fail
            go_ret
            exact ⟨ret_s HE.out.symm, (HB3.out.trans (hb.mono HB3.out.size)).trans (below_drewN _ _ _)⟩
  · have HD := Lib.hid (show decTx n m = ⟨#[]⟩ from if_pos hok)
    rw [decide_eq_false hok]
    clear hok
    go_wp2_with fail
    go_ret
    exact ⟨ret_s HD.out.symm, HB2.out⟩
end Go.Proofs.YtohfljaaaojjmaaGreatDoor
namespace Go.Proofs.YtohfljaaaojjmaaGreatDoor
open Go.ChangeShapes Go.WideShapes Go.ChangeAt Go.RowKit Go.Joins
set_option linter.unusedVariables false
set_option maxRecDepth 100000
/-- What can be written. -/
def wrP (t : T) : Prop := (t.k = 1 ∨ t.k = 2 ∨ t.k = 4 ∨ t.k = 7 ∨ t.k = 9 ∨ t.k = 10) ∨ (t.k = 3 ∧ -1000000000000000 ≤ t.n ∧ t.n ≤ 1000000000000000) ∨ (t.k = 6 ∧ -16 ≤ t.x ∧ t.x ≤ 0)
instance (t : T) : Decidable (wrP t) := by unfold wrP; exact inferInstance
theorem decTx_size (n : Int) (m : Nat) : (decTx n m).size ≤ 200 := by
  unfold decTx
  by_cases h : decOk n (-(m : Int))
  · have hd : digN n ≤ 20 := by
      unfold decOk at h
      rcases h with ⟨_, h1, h2⟩ | ⟨_, _, h1, _⟩
      · exact digN_le n ⟨by omega, by omega⟩
      · omega
    have h1 := digT_size n
    have h2 := padZ_size 60 m (digT n)
    have z1 : (⟨#[45]⟩ : ByteArray).size = 1 := rfl
    have z2 : (⟨#[46]⟩ : ByteArray).size = 1 := rfl
    rw [if_neg (fun hn => hn h)]
    by_cases h0 : m = 0
    · rw [if_pos h0]
      by_cases hn : n < 0
      · rw [numT_neg hn, ByteArray.size_append]; omega
      · rw [numT_pos hn]; omega
    · rw [if_neg h0]
      unfold decBody
      split
      · simp only [ByteArray.size_append, ByteArray.size_extract]; omega
      · simp only [ByteArray.size_append, ByteArray.size_extract]; omega
  · rw [if_pos h]; exact Nat.zero_le _
end Go.Proofs.YtohfljaaaojjmaaGreatDoor
namespace Go.Proofs.YtohfljaaaojjmaaGreatDoor
open Go.ChangeShapes Go.WideShapes Go.ChangeAt Go.RowKit Go.Joins
set_option linter.unusedVariables false
set_option maxRecDepth 100000
end Go.Proofs.YtohfljaaaojjmaaGreatDoor
namespace Go.Proofs.YtohfljaaaojjmaaGreatDoor
open Go.ChangeShapes Go.WideShapes Go.ChangeAt Go.RowKit Go.Joins
set_option linter.unusedVariables false
set_option maxRecDepth 100000
/-- Every block that is no row of bytes stands. -/
def NB (w w' : World) : Prop := ∀ f, f < w.heap.size → (∀ cur, w.heap[f]? ≠ some (.cells cur 5 (0, 0))) → w'.heap[f]? = w.heap[f]?
theorem NB.refl (w : World) : NB w w := fun _ _ _ => rfl
theorem NB.trans {w w1 w2 : World} (h : NB w w1) (h2 : NB w1 w2) (hs : w.heap.size ≤ w1.heap.size) : NB w w2 := fun f hf hn => by
  have e := h f hf hn
  exact (h2 f (by omega) (fun cur => by rw [e]; exact hn cur)).trans e
theorem NB.of {w w' : World} (h : Below w.heap.size w w') : NB w w' := fun f hf _ => h.block f hf
theorem NB.is {w w' : World} {g : Nat} {e : TypeId} {cs : Array Value} (h : NB w w') (hi : Is w g e cs) (he : e ≠ 5) : Is w' g e cs := (h g hi.lt (fun cur hc => by
  have := hi.symm.trans hc
  simp only [Option.some.injEq, Obj.cells.injEq] at this
  exact he this.2.1)).trans hi
end Go.Proofs.YtohfljaaaojjmaaGreatDoor
namespace Go.Proofs.YtohfljaaaojjmaaGreatDoor
open Go.ChangeShapes Go.WideShapes Go.ChangeAt Go.RowKit Go.Joins
set_option linter.unusedVariables false
set_option maxRecDepth 100000
end Go.Proofs.YtohfljaaaojjmaaGreatDoor
namespace Go.Proofs.YtohfljaaaojjmaaGreatDoor
open Go.ChangeShapes Go.WideShapes Go.ChangeAt Go.RowKit Go.Joins
set_option linter.unusedVariables false
set_option maxRecDepth 100000
end Go.Proofs.YtohfljaaaojjmaaGreatDoor
namespace Go.Proofs.YtohfljaaaojjmaaGreatDoor
open Go.ChangeShapes Go.WideShapes Go.ChangeAt Go.RowKit Go.Joins
set_option linter.unusedVariables false
set_option maxRecDepth 100000
end Go.Proofs.YtohfljaaaojjmaaGreatDoor
namespace Go.Proofs.YtohfljaaaojjmaaGreatDoor
open Go.ChangeShapes Go.WideShapes Go.ChangeAt Go.RowKit Go.Joins
set_option linter.unusedVariables false
set_option maxRecDepth 100000
def writeKL (t : T) : List Int := if (allB ownB t && allB packB t) = true then packK t else []
set_option maxHeartbeats 1000000 in
theorem spec_WritePacked (t : T) (a : Option Addr) (cap B : Nat) (w : World) (hr : R w B a cap t.l) (hwf : Wf t) (hsz : T.sz t ≤ 1048576) (hB : B ≤ w.heap.size) :
    Calls Tryz.prog 37 #[.agg (cV t a cap)] w fun e w' => ∃ a' cap', e = .returned (.slice a' (writeKL t).length cap') ∧ AppL EByte 1 5 w' w.heap.size a' cap' (writeKL t) [] ∧ Below w.heap.size w w' := by
  have HR := Lib.hid hr; clear hr
  have HWF := Lib.hid hwf; clear hwf
  have H0 := Lib.hid (below1 w (.cells (cV t a cap) 26))
  have q0 := Is.new w (cV t a cap) 26
  go_enter Tryz.func37, Tryz.ntmps37
  go_wp2_with fail
  refine (spec_FitsPacked t a cap B _ (HR.out.below H0.out hB) HWF.out hsz (by simp; omega)).mono ?_
  rintro e w1 ⟨rfl, hb1⟩
  have HB1 := Lib.hid (below_step H0.out hb1 (by simp))
  have p1 := q0.below hb1 (by simp)
  obtain ⟨r0, r1, r2, r3, r4⟩ := p1.cells5
  have l1 : w.heap.size < w1.heap.size := by have := hb1.size; simp at this; omega
  clear hb1
  cases hv : (allB ownB t && allB packB t) with
  | false =>
    have HD := Lib.hid (show writeKL t = [] from if_neg (by rw [hv]; simp))
    clear hv
    have HA := Lib.hid (AppL.empty (E := EByte) (n := 1) (e := 5) w1 w.heap.size (by omega))
    go_wp2_with fail
    go_ret
    exact ⟨_, 0, ret_sl (by rw [HD.out]; rfl), by rw [HD.out]; exact HA.out, HB1.out.trans ((below1 _ _).mono (by omega))⟩
  | true =>
    have HD := Lib.hid (show writeKL t = packK t from if_pos hv)
    clear hv
    go_wp2_with fail
    refine (spec_PackPacked t a cap B w1 (HR.out.below HB1.out hB) HWF.out hsz (by omega)).mono ?_
    rintro e w2 ⟨a2, c2, rfl, happ2, hb2⟩
    have HA2 := Lib.hid (happ2.less (show w.heap.size ≤ _ by omega))
    have HB2 := Lib.hid (HB1.out.trans (hb2.mono HB1.out.size))
    clear happ2 hb2
    go_wp2_with fail
    go_ret
    exact ⟨a2, c2, ret_sl (by rw [HD.out]), by rw [HD.out]; exact HA2.out, HB2.out⟩
set_option maxHeartbeats 1000000 in
theorem impl_WritePacked (t : T) (a : Option Addr) (cap B : Nat) (w : World) (hr : R w B a cap t.l) (hwf : Wf t) (hsz : T.sz t ≤ 1048576) (he : Env B w) (hB : B ≤ w.heap.size) :
    Calls Tryz.prog 32 #[.agg (cV t a cap)] w fun e w' => ∃ a' cap', e = .returned (.slice a' (writeKL t).length cap') ∧ AppL EByte 1 5 w' w.heap.size a' cap' (writeKL t) [] ∧ Below w.heap.size w w' := by
  have HR := Lib.hid hr; clear hr
  have HE := Lib.hid he; clear he
  have HWF := Lib.hid hwf; clear hwf
  have H0 := Lib.hid (below1 w (.cells (cV t a cap) 26))
  have q0 := Is.new w (cV t a cap) 26
  go_enter Tryz.func32, Tryz.ntmps32
  go_wp2_with fail
  refine (impl_FitsPacked t a cap B _ (HR.out.below H0.out hB) HWF.out hsz (HE.out.step (H0.out.mono hB)) (by simp; omega)).mono ?_
  rintro e w1 ⟨rfl, hb1⟩
  have HB1 := Lib.hid (below_step H0.out hb1 (by simp))
  have p1 := q0.below hb1 (by simp)
  obtain ⟨r0, r1, r2, r3, r4⟩ := p1.cells5
  have l1 : w.heap.size < w1.heap.size := by have := hb1.size; simp at this; omega
  clear hb1
  cases hv : (allB ownB t && allB packB t) with
  | false =>
    have HD := Lib.hid (show writeKL t = [] from if_neg (by rw [hv]; simp))
    clear hv
    go_wp2_with fail
    go_ret
    exact ⟨none, 0, ret_sl (by rw [HD.out]; rfl), by rw [HD.out]; exact Or.inl ⟨rfl, rfl, rfl, rfl⟩, HB1.out⟩
  | true =>
    have HD := Lib.hid (show writeKL t = packK t from if_pos hv)
    clear hv
    go_wp2_with fail
    refine (impl_PackPacked t a cap B w1 (HR.out.below HB1.out hB) HWF.out hsz (by omega)).mono ?_
    rintro e w2 ⟨a2, c2, rfl, happ2, hb2⟩
    have HA2 := Lib.hid (happ2.less (show w.heap.size ≤ _ by omega))
    have HB2 := Lib.hid (HB1.out.trans (hb2.mono HB1.out.size))
    clear happ2 hb2
    go_wp2_with fail
    go_ret
    exact ⟨a2, c2, ret_sl (by rw [HD.out]), by rw [HD.out]; exact HA2.out, HB2.out⟩
end Go.Proofs.YtohfljaaaojjmaaGreatDoor
namespace Go.Proofs.YtohfljaaaojjmaaGreatDoor
open Go.ChangeShapes Go.WideShapes Go.ChangeAt Go.RowKit Go.Joins
set_option linter.unusedVariables false
set_option maxRecDepth 100000
/-! ### What the drawn laws call besides -/
set_option maxHeartbeats 1000000 in
theorem laws_sameVal : ∀ t u : T, ∀ (a a' : Option Addr) (cap cap' B : Nat) (w : World), R w B a cap t.l → R w B a' cap' u.l → B ≤ w.heap.size →
    Calls Tryz.prog 18 #[.agg (cV t a cap), .agg (cV u a' cap')] w fun e w' => e = .returned (.bool (sameT t u)) ∧ Below w.heap.size w w' := by
  intro t
  induction t using T.ind with
  | h k n x s l ih =>
    intro u a a' cap cap' B w hr hr' hB
    have IH := Lib.hid ih; clear ih
    obtain ⟨k', n', x', s', l'⟩ := u
    simp only [cV, T.k, T.n, T.x, T.s, T.l] at hr hr' ⊢
    obtain ⟨hl1, hl2⟩ := hr.len
    obtain ⟨hm1, hm2⟩ := hr'.len
    have HR := Lib.hid hr; clear hr
    have HR' := Lib.hid hr'; clear hr'
    have H3 := Lib.hid (below2 w (.cells #[Value.int IntKind.i64 k, Value.int IntKind.i64 n, Value.int IntKind.i64 x, Value.string s, Value.slice a l.length cap] 26) (.cells #[Value.int IntKind.i64 k', Value.int IntKind.i64 n', Value.int IntKind.i64 x', Value.string s', Value.slice a' l'.length cap'] 26))
    by_cases hk : k = k'
    case neg =>
      have h1 : (k == k') = false := by simp [hk]
      have h2 : (k != k') = true := by simp [hk]
      have HE := Lib.hid (show sameT (T.mk k n x s l) (T.mk k' n' x' s' l') = false from sameT_false (fun e => hk (by injection e)))
      clear hk
      go_enter Tryz.func18, Tryz.ntmps18
      go_wp2_with fail
      go_ret
      exact ⟨ret_b HE.out.symm, H3.out⟩
    subst hk
    by_cases hk : n = n'
    case neg =>
      have h1 : (n == n') = false := by simp [hk]
      have h2 : (n != n') = true := by simp [hk]
      have HE := Lib.hid (show sameT (T.mk k n x s l) (T.mk k n' x' s' l') = false from sameT_false (fun e => hk (by injection e)))
      clear hk
      go_enter Tryz.func18, Tryz.ntmps18
      go_wp2_with fail
      go_ret
      exact ⟨ret_b HE.out.symm, H3.out⟩
    subst hk
    by_cases hk : x = x'
    case neg =>
      have h1 : (x == x') = false := by simp [hk]
      have h2 : (x != x') = true := by simp [hk]
      have HE := Lib.hid (show sameT (T.mk k n x s l) (T.mk k n x' s' l') = false from sameT_false (fun e => hk (by injection e)))
      clear hk
      go_enter Tryz.func18, Tryz.ntmps18
      go_wp2_with fail
      go_ret
      exact ⟨ret_b HE.out.symm, H3.out⟩
    subst hk
    by_cases hk : s = s'
    case neg =>
      have h1 := bytes_ne hk
      have h2 : (s.toList != s'.toList) = true := by simp [bne, h1]
      have HE := Lib.hid (show sameT (T.mk k n x s l) (T.mk k n x s' l') = false from sameT_false (fun e => hk (by injection e)))
      clear hk
      go_enter Tryz.func18, Tryz.ntmps18
      go_wp2_with fail
      go_ret
      exact ⟨ret_b HE.out.symm, H3.out⟩
    subst hk
    by_cases hk : l.length = l'.length
    case neg =>
      have h1 : ((l.length : Int) == l'.length) = false := by rw [beq_eq_false_iff_ne]; omega
      have h2 : ((l.length : Int) != l'.length) = true := by simp [bne, h1]
      have HE := Lib.hid (show sameT (T.mk k n x s l) (T.mk k n x s l') = false from sameT_false (fun e => hk (by injection e with _ _ _ _ e5; rw [e5])))
      clear hk
      go_enter Tryz.func18, Tryz.ntmps18
      go_wp2_with fail
      go_ret
      exact ⟨ret_b HE.out.symm, H3.out⟩
    have h1 : ((l.length : Int) == l'.length) = true := by simp [hk]
    have h2 : ((l.length : Int) != l'.length) = false := by simp [hk]
    have HL := Lib.hid hk; clear hk
    have q1 : Is ((w.alloc (.cells #[Value.int IntKind.i64 k, Value.int IntKind.i64 n, Value.int IntKind.i64 x, Value.string s, Value.slice a l.length cap] 26)).alloc (.cells #[Value.int IntKind.i64 k, Value.int IntKind.i64 n, Value.int IntKind.i64 x, Value.string s, Value.slice a' l'.length cap'] 26)) w.heap.size 26 _ := (Is.new _ _ _).alloc _
    have q2 := Is.new2 w (.cells #[Value.int IntKind.i64 k, Value.int IntKind.i64 n, Value.int IntKind.i64 x, Value.string s, Value.slice a l.length cap] 26) #[Value.int IntKind.i64 k, Value.int IntKind.i64 n, Value.int IntKind.i64 x, Value.string s, Value.slice a' l'.length cap'] 26
    have hs : w.heap.size + 2 ≤ ((w.alloc (.cells #[Value.int IntKind.i64 k, Value.int IntKind.i64 n, Value.int IntKind.i64 x, Value.string s, Value.slice a l.length cap] 26)).alloc (.cells #[Value.int IntKind.i64 k, Value.int IntKind.i64 n, Value.int IntKind.i64 x, Value.string s, Value.slice a' l'.length cap'] 26)).heap.size := by simp
    go_enter Tryz.func18, Tryz.ntmps18
    go_wp2_with fail
    generalize hW : (w.alloc (.cells #[Value.int IntKind.i64 k, Value.int IntKind.i64 n, Value.int IntKind.i64 x, Value.string s, Value.slice a l.length cap] 26)).alloc (.cells #[Value.int IntKind.i64 k, Value.int IntKind.i64 n, Value.int IntKind.i64 x, Value.string s, Value.slice a' l'.length cap'] 26) = W0 at q1 q2 H3 hs ⊢
    clear hW
    go_loopw [5] (fun i wr => ∃ (j : Nat), j ≤ l.length ∧ i = .int .i64 j ∧ Hid (l.take j = l'.take j) ∧ Below W0.heap.size W0 wr) (fun i _ => l.length - (intOf i).toNat)
    case atStart => exact ⟨0, Nat.zero_le _, rfl, rfl, Below.refl _ _⟩
    case round =>
      obtain ⟨j, hj, rfl, HP, hb⟩ := hrel
      have hbs := hb.size
      obtain ⟨c0, c1, c2, c3, c4⟩ := (q1.below hb (by omega)).cells5
      obtain ⟨e0, e1, e2, e3, e4⟩ := (q2.below hb (by omega)).cells5
      by_cases hlt : j < l.length
      · have hlt' : j < l'.length := by have := HL.out; omega
        have hR := (HR.out.below H3.out hB).below hb (by omega)
        have hR' := (HR'.out.below H3.out hB).below hb (by omega)
        obtain ⟨b, o, a2, cap2, rfl, hbl, d0, d1, d2, d3, d4, hwf, hq⟩ := hR.get j hlt
        obtain ⟨b', o', a3, cap3, rfl, hbl', d0', d1', d2', d3', d4', hwf', hq'⟩ := hR'.get j hlt'
        have l1 : b < wr.heap.size := by omega
        have l2 : b' < wr.heap.size := by omega
        have l3 : w.heap.size < wr.heap.size := by omega
        have l4 : w.heap.size + 1 < wr.heap.size := by omega
        clear hR hR' hwf hwf'
        go_wp2_with fail
        go_region_held3 (fun w' => (∀ b o, b < wr.heap.size → w'.cell? ⟨b, o, none⟩ = wr.cell? ⟨b, o, none⟩) ∧ Below (wr.heap.size) wr w') (first | exact ⟨fun _ _ _ => rfl, (Below.refl _ _).drew⟩ | assumption | exact keep_step (by assumption) (Below.drew (Below.refl _ _)) (Nat.le_refl _) | exact keep_step (by assumption) (by assumption) (by first | omega | (simp only [World.size_drew]; omega) | (simp only [size_alloc]; omega) | (simp only [World.size_drew, size_alloc]; omega) | (have := (‹(_ ∧ Below (wr.heap.size) wr _)›).2.size; first | omega | (simp only [World.size_drew]; omega) | (simp only [size_alloc]; omega) | (simp only [World.size_drew, size_alloc]; omega) | (simp only [World.size_drew] at this; omega) | (simp only [size_alloc] at this; omega) | (simp only [World.size_drew, size_alloc] at this; omega))) | exact keep_step (by assumption) (below1 _ _) (by first | omega | (simp only [World.size_drew]; omega) | (simp only [size_alloc]; omega) | (simp only [World.size_drew, size_alloc]; omega) | (have := (‹(_ ∧ Below (wr.heap.size) wr _)›).2.size; first | omega | (simp only [World.size_drew]; omega) | (simp only [size_alloc]; omega) | (simp only [World.size_drew, size_alloc]; omega) | (simp only [World.size_drew] at this; omega) | (simp only [size_alloc] at this; omega) | (simp only [World.size_drew, size_alloc] at this; omega)))) (first | (go_at_call 18; refine (IH.out l[j] (List.getElem_mem hlt) l'[j] _ _ _ _ B _ ?_ ?_ (by have := (‹_ ∧ Below (wr.heap.size) wr _›).2.size; omega)).mono ?_; (exact hq.below (‹_ ∧ Below (wr.heap.size) wr _›).2 (by omega)); (exact hq'.below (‹_ ∧ Below (wr.heap.size) wr _›).2 (by omega)); rintro e w2 ⟨rfl, hb2⟩))
        have K := Lib.hid (hb.trans ((‹_ ∧ Below (wr.heap.size) wr _›).2.mono hbs))
        clear hb2
        by_cases he : l[j] = l'[j]
        · have HE := Lib.hid (show l.take (j + 1) = l'.take (j + 1) from by rw [take_snoc l j hlt, take_snoc l' j hlt', HP.out, he])
          have hd := sameT_true he
          clear he
          rw [hd]
          go_wp2_with fail
          go_roundw
          case rel => exact ⟨j + 1, by omega, by go_num, HE.out, K.out⟩
          case measure => simp [intOf]; omega
        · have HE := Lib.hid (show sameT (T.mk k n x s l) (T.mk k n x s l') = false from sameT_false (fun e => he (by injection e with _ _ _ _ e5; subst e5; rfl)))
          have hd := sameT_false he
          clear he
          rw [hd]
          go_wp2_with fail
          go_ret
          exact ⟨ret_b HE.out.symm, H3.out.trans (K.out.mono (by omega))⟩
      · have HJ := Lib.hid (show sameT (T.mk k n x s l) (T.mk k n x s l') = true from sameT_true (by have := HP.out; have h2 := HL.out; rw [List.take_of_length_le (by omega), List.take_of_length_le (by omega)] at this; rw [this]))
        go_wp2_with fail
        go_ret
        exact ⟨ret_b HJ.out.symm, H3.out.trans (hb.mono (by omega))⟩
theorem laws_big (a : Option Addr) (cap : Nat) (l : List Int) (w : World) : Calls Tryz.prog 8 #[.slice a l.length cap] w fun e w' => e = .returned (.bool (decide (1048576 < l.length))) ∧ w' = w := by
  by_cases h : 1048576 < l.length
  · have hz : (1048576 : Int) < (l.length : Int) := by omega
    go_enter Tryz.func8, Tryz.ntmps8
    go_wp2_with fail
    go_ret
    exact ⟨by simp [h], rfl⟩
  · have hz : ¬ (1048576 : Int) < (l.length : Int) := by omega
    go_enter Tryz.func8, Tryz.ntmps8
    go_wp2_with fail
    go_ret
    exact ⟨by simp [h], rfl⟩
end Go.Proofs.YtohfljaaaojjmaaGreatDoor
namespace Go.Proofs.YtohfljaaaojjmaaGreatDoor
open Go.ChangeShapes Go.WideShapes Go.ChangeAt Go.RowKit Go.Joins
set_option linter.unusedVariables false
set_option maxRecDepth 100000
/-! ### Draws: a cursor in a block of its own -/
/-- Nothing but block A has changed. -/
abbrev Kp (A : Nat) (w w' : World) : Prop := Beside A (A + 1) w w'
theorem Kp.of_below {A n : Nat} {w w' : World} (h : Below n w w') (hn : w.heap.size ≤ n) (hA : A ≤ n) : Kp A w w' := Beside.of_below h hn hA
theorem Kp.size {A : Nat} {w w' : World} (h : Kp A w w') : w.heap.size ≤ w'.heap.size := h.1.size
theorem Kp.heap {A : Nat} {w w' : World} (h : Kp A w w') (f : Nat) (hf : f ≠ A) (hl : f < w.heap.size) : w'.heap[f]? = w.heap[f]? := by
  rcases Nat.lt_or_ge f A with h1 | h1
  · exact h.1.block f h1
  · exact h.2 f (by omega) hl
theorem Kp.is {A g : Nat} {w w' : World} {e : TypeId} {cs : Array Value} (h : Kp A w w') (hi : Is w g e cs) (hg : g ≠ A) : Is w' g e cs := (h.heap g hg hi.lt).trans hi
theorem Kp.drewN {A : Nat} {w : World} (n : Nat) : Kp A w (w.drewN n) := ⟨below_drewN _ _ _, fun _ _ _ => rfl⟩
theorem Kp.cell {A : Nat} {w : World} (i : Nat) (v : Value) : Kp A w (w.setCell ⟨A, i, none⟩ v) := ⟨(Below.refl _ _).setCell (p := ⟨A, i, none⟩) (Nat.le_refl _) _, fun f hf _ => heap_miss _ _ _ _ (by omega) _⟩
theorem Kp.alloc {A : Nat} {w : World} (hA : A ≤ w.heap.size) (o : Obj) : Kp A w (w.alloc o) := Kp.of_below (below1 w o) (Nat.le_refl _) hA
/-- The slice value holds the list, in blocks that stand, other than block A. -/
def Rx {α : Type} (E : World → Nat → Nat → α → List Nat → Prop) (n : Nat) (w : World) (A : Nat) (a : Option Addr) (cap : Nat) (l : List α) : Prop := ∃ F, Sl E n w a cap l F ∧ ∀ f ∈ F, f ≠ A ∧ f < w.heap.size
section
variable {α : Type} {E : World → Nat → Nat → α → List Nat → Prop} {n : Nat} {w w' : World} {A B cap : Nat} {a : Option Addr} {l : List α}
theorem Rx.kp (hE : Loc E n) (h : Rx E n w A a cap l) (hk : Kp A w w') : Rx E n w' A a cap l := by
  obtain ⟨F, h1, h2⟩ := h
  exact ⟨F, h1.agree hE (fun f hf => hk.heap f (h2 f hf).1 (h2 f hf).2), fun f hf => ⟨(h2 f hf).1, Nat.lt_of_lt_of_le (h2 f hf).2 hk.size⟩⟩
theorem Rx.below (hE : Loc E n) (h : Rx E n w A a cap l) {m : Nat} (hb : Below m w w') (hm : w.heap.size ≤ m) : Rx E n w' A a cap l := by
  obtain ⟨F, h1, h2⟩ := h
  exact ⟨F, h1.agree hE (fun f hf => hb.block f (by have := (h2 f hf).2; omega)), fun f hf => ⟨(h2 f hf).1, Nat.lt_of_lt_of_le (h2 f hf).2 hb.size⟩⟩
theorem Rx.rd (h : Rx E n w A a cap l) : Rd E n w w.heap.size a cap l := by
  obtain ⟨F, h1, h2⟩ := h
  exact ⟨F, h1, fun f hf => (h2 f hf).2⟩
theorem Rx.nil (c : Nat) (hc : c ≤ maxLen) : Rx E n w A a c [] := ⟨[], Sl.nil _ _ _ hc, by simp⟩
theorem Rx.get (h : Rx E n w A a cap l) (i : Nat) (hi : i < l.length) :
    ∃ b o F, a = some ⟨b, o, none⟩ ∧ b ≠ A ∧ b < w.heap.size ∧ E w b (o + i * n) l[i] F ∧ ∀ f ∈ F, f ≠ A ∧ f < w.heap.size := by
  obtain ⟨F, ⟨h1, h2, h3, h4⟩, hF⟩ := h
  obtain ⟨b, o, F', ha, rfl, hr⟩ := h4 (by rintro rfl; simp at hi)
  obtain ⟨G, hv, hG⟩ := hr.get i hi
  exact ⟨b, o, G, ha, (hF b (by simp)).1, (hF b (by simp)).2, hv, fun f hf => hF f (by simp [hG f hf])⟩
end
/-- A row of ints in a block. -/
theorem ints_row {w : World} {g : Nat} {e : TypeId} {cs : Array Value} (h : Is w g e cs) : ∀ (l : List Int) (o : Nat), (∀ i (hi : i < l.length), cs[o + i]? = some (.int .i64 l[i])) → (∀ x ∈ l, I64 x) → Row EInt 1 w g o l [] := by
  intro l
  induction l with
  | nil => intro o _ _; rfl
  | cons x r ih =>
    intro o hc hx
    refine ⟨[], [], rfl, ⟨rfl, h.cell o (hc 0 (by simp)), hx x (by simp)⟩, ih (o + 1) (fun i hi => ?_) (fun y hy => hx y (by simp [hy]))⟩
    have := hc (i + 1) (by simpa using hi)
    rw [show o + 1 + i = o + (i + 1) from by omega]; simpa using this
theorem ints_rx {w : World} {g A : Nat} {e : TypeId} (l : List Int) (h : Is w g e (l.map (Value.int .i64)).toArray) (hx : ∀ x ∈ l, I64 x) (hA : g ≠ A) (hl : 0 < l.length) (hm : l.length ≤ maxLen) : Rx EInt 1 w A (some ⟨g, 0, none⟩) l.length l := by
  refine ⟨[g], ⟨Nat.le_refl _, hm, fun h => (by subst h; simp at hl), fun _ => ⟨g, 0, [], rfl, rfl, ints_row h l 0 (fun i hi => by simp [hi]) hx⟩⟩, fun f hf => ?_⟩
  rw [List.mem_singleton] at hf
  subst hf
  exact ⟨hA, h.lt⟩
/-- A row of strings. -/
def EStx (w : World) (b o : Nat) (x : ByteArray) (F : List Nat) : Prop := F = [] ∧ w.cell? ⟨b, o, none⟩ = some (.string x)
theorem EStx.loc : Loc EStx 1 := by
  intro x w w' b o F h hc _
  obtain ⟨h0, h1⟩ := h
  exact ⟨h0, by rw [hc _ (by omega) (by omega)]; exact h1⟩
theorem strs_row {w : World} {g : Nat} {e : TypeId} {cs : Array Value} (h : Is w g e cs) : ∀ (l : List ByteArray) (o : Nat), (∀ i (hi : i < l.length), cs[o + i]? = some (.string l[i])) → Row EStx 1 w g o l [] := by
  intro l
  induction l with
  | nil => intro o _; rfl
  | cons x r ih =>
    intro o hc
    refine ⟨[], [], rfl, ⟨rfl, h.cell o (hc 0 (by simp))⟩, ih (o + 1) (fun i hi => ?_)⟩
    have := hc (i + 1) (by simpa using hi)
    rw [show o + 1 + i = o + (i + 1) from by omega]; simpa using this
theorem strs_rx {w : World} {g A : Nat} {e : TypeId} (l : List ByteArray) (h : Is w g e (l.map Value.string).toArray) (hA : g ≠ A) (hl : 0 < l.length) (hm : l.length ≤ maxLen) : Rx EStx 1 w A (some ⟨g, 0, none⟩) l.length l := by
  refine ⟨[g], ⟨Nat.le_refl _, hm, fun h => (by subst h; simp at hl), fun _ => ⟨g, 0, [], rfl, rfl, strs_row h l 0 (fun i hi => by simp [hi])⟩⟩, fun f hf => ?_⟩
  rw [List.mem_singleton] at hf
  subst hf
  exact ⟨hA, h.lt⟩
/-- The cursor at block A: the bytes of the draw, the place, the mix. -/
def Cur (w : World) (A : Nat) : Prop := ∃ (a : Option Addr) (cap : Nat) (l : List Int) (i : Nat) (h : Int), Is w A 86 #[.slice a l.length cap, .int .i64 i, .int .i64 h] ∧ Rd EByte 1 w A a cap l ∧ i ≤ l.length ∧ I64 h ∧ l.length ≤ 1048576
theorem Cur.lt {w : World} {A : Nat} (h : Cur w A) : A < w.heap.size := by obtain ⟨_, _, _, _, _, h, _⟩ := h; exact h.lt
theorem Cur.below {w w' : World} {A n : Nat} (h : Cur w A) (hb : Below n w w') (hn : A < n) : Cur w' A := by
  obtain ⟨a, cap, l, i, m, h1, h2, h3⟩ := h
  exact ⟨a, cap, l, i, m, h1.below hb hn, h2.below EByte.loc hb (by omega), h3⟩
theorem Cur.next {w : World} {A cap i : Nat} {a : Option Addr} {l : List Int} {h : Int} (n : Nat) (hI : Is w A 86 #[.slice a l.length cap, .int .i64 i, .int .i64 h]) (hR : Rd EByte 1 w A a cap l) (hi : i < l.length) (hh : I64 h) (hl : l.length ≤ 1048576) :
    Cur ((w.drewN n).setCell ⟨A, 1, none⟩ (.int .i64 ((i : Int) + 1))) A ∧ Kp A w ((w.drewN n).setCell ⟨A, 1, none⟩ (.int .i64 ((i : Int) + 1))) := by
  have HI3 := (hI.agree (w' := w.drewN n) rfl).set 1 (.int .i64 ((i : Int) + 1))
  have hk : Kp A w ((w.drewN n).setCell ⟨A, 1, none⟩ (.int .i64 ((i : Int) + 1))) := (Kp.drewN n).trans (Kp.cell 1 _)
  refine ⟨⟨a, cap, l, i + 1, h, ?_, hR.below EByte.loc hk.1 (Nat.le_refl _), by omega, hh, hl⟩, hk⟩
  simpa using HI3
theorem Cur.stay {w : World} {A cap i : Nat} {a : Option Addr} {l : List Int} {h : Int} (n : Nat) (hI : Is w A 86 #[.slice a l.length cap, .int .i64 i, .int .i64 h]) (hR : Rd EByte 1 w A a cap l) (hi : i ≤ l.length) (hh : I64 h) (hl : l.length ≤ 1048576) :
    Cur (w.drewN n) A ∧ Kp A w (w.drewN n) :=
  ⟨⟨a, cap, l, i, h, hI.agree (w' := w.drewN n) rfl, hR.below EByte.loc (below_drewN A w n) (Nat.le_refl _), hi, hh, hl⟩, Kp.drewN n⟩
instance (n : Int) : Decidable (I64 n) := inferInstanceAs (Decidable (_ ∧ _))
theorem bits_and (x m : Int) (h0 : 0 ≤ m) (h1 : m ≤ 1073741823) : 0 ≤ bits BinOp.and IntKind.i64 x m ∧ bits BinOp.and IntKind.i64 x m ≤ m := by
  have hm : (BitVec.ofInt 64 m).toNat = m.toNat := by
    rw [BitVec.toNat_ofInt]
    have : m % (2 ^ 64 : Nat) = m := Int.emod_eq_of_lt h0 (by simp; omega)
    rw [this]
  have h2 : (BitVec.ofInt 64 x &&& BitVec.ofInt 64 m).toNat ≤ m.toNat := by
    rw [BitVec.toNat_and, hm]
    exact Nat.and_le_right
  show 0 ≤ IntKind.wrap .i64 ((BitVec.ofInt 64 x &&& BitVec.ofInt 64 m).toNat : Int) ∧ IntKind.wrap .i64 ((BitVec.ofInt 64 x &&& BitVec.ofInt 64 m).toNat : Int) ≤ m
  generalize (BitVec.ofInt 64 x &&& BitVec.ofInt 64 m).toNat = r at h2
  have : IntKind.wrap .i64 (r : Int) = (r : Int) := by simp [IntKind.wrap, IntKind.bits, IntKind.signed]; omega
  omega
theorem wrap_i64 (n : Int) : I64 (wrap64 n) := by
  unfold I64 wrap64
  constructor <;> (first | omega | (simp; omega) | (split <;> omega))
theorem Kp.set {A g : Nat} {w w' : World} (h : Kp A w w') (hg : w.heap.size ≤ g) (hA : A ≤ g) (i : Nat) (v : Value) : Kp A w (w'.setCell ⟨g, i, none⟩ v) :=
  ⟨h.1.trans ((Below.refl _ _).setCell (p := ⟨g, i, none⟩) hA _), fun f hf hl => (heap_miss _ _ _ _ (by omega) _).trans (h.2 f hf hl)⟩
theorem Cur.set {A g : Nat} {w : World} (h : Cur w A) (hA : A < g) (i : Nat) (v : Value) : Cur (w.setCell ⟨g, i, none⟩ v) A :=
  h.below ((Below.refl g w).setCell (p := ⟨g, i, none⟩) (Nat.le_refl _) _) hA
/-- A result of two cells is stored. -/
theorem fin2 {w w4 : World} {A g : Nat} {e : TypeId} {u0 u1 : Value} (v0 v1 : Value) (hI : Is w4 g e #[u0, u1]) (hk : Kp A w w4) (hg : w.heap.size ≤ g) (hc : Cur w4 A) (hA : A < g) :
    ((w4.setCell ⟨g, 0, none⟩ v0).setCell ⟨g, 1, none⟩ v1).cell? ⟨g, 0, none⟩ = some v0 ∧ ((w4.setCell ⟨g, 0, none⟩ v0).setCell ⟨g, 1, none⟩ v1).cell? ⟨g, 1, none⟩ = some v1 ∧
      Cur ((w4.setCell ⟨g, 0, none⟩ v0).setCell ⟨g, 1, none⟩ v1) A ∧ Kp A w ((w4.setCell ⟨g, 0, none⟩ v0).setCell ⟨g, 1, none⟩ v1) := by
  obtain ⟨e0, e1⟩ := ((hI.set 0 v0).set 1 v1).cells2
  exact ⟨e0, e1, (hc.set hA 0 v0).set hA 1 v1, (hk.set hg (by omega) 0 v0).set hg (by omega) 1 v1⟩
/-- A result of five cells is stored. -/
theorem fin5 {w w4 : World} {A g : Nat} {e : TypeId} (v0 v1 v2 v3 v4 : Value) (hI : Blk w4 g e 5) (hk : Kp A w w4) (hg : w.heap.size ≤ g) (hc : Cur w4 A) (hA : A < g) :
    (((((w4.setCell ⟨g, 0, none⟩ v0).setCell ⟨g, 1, none⟩ v1).setCell ⟨g, 2, none⟩ v2).setCell ⟨g, 3, none⟩ v3).setCell ⟨g, 4, none⟩ v4).cell? ⟨g, 0, none⟩ = some v0 ∧
    (((((w4.setCell ⟨g, 0, none⟩ v0).setCell ⟨g, 1, none⟩ v1).setCell ⟨g, 2, none⟩ v2).setCell ⟨g, 3, none⟩ v3).setCell ⟨g, 4, none⟩ v4).cell? ⟨g, 1, none⟩ = some v1 ∧
    (((((w4.setCell ⟨g, 0, none⟩ v0).setCell ⟨g, 1, none⟩ v1).setCell ⟨g, 2, none⟩ v2).setCell ⟨g, 3, none⟩ v3).setCell ⟨g, 4, none⟩ v4).cell? ⟨g, 2, none⟩ = some v2 ∧
    (((((w4.setCell ⟨g, 0, none⟩ v0).setCell ⟨g, 1, none⟩ v1).setCell ⟨g, 2, none⟩ v2).setCell ⟨g, 3, none⟩ v3).setCell ⟨g, 4, none⟩ v4).cell? ⟨g, 3, none⟩ = some v3 ∧
    (((((w4.setCell ⟨g, 0, none⟩ v0).setCell ⟨g, 1, none⟩ v1).setCell ⟨g, 2, none⟩ v2).setCell ⟨g, 3, none⟩ v3).setCell ⟨g, 4, none⟩ v4).cell? ⟨g, 4, none⟩ = some v4 ∧
    Cur (((((w4.setCell ⟨g, 0, none⟩ v0).setCell ⟨g, 1, none⟩ v1).setCell ⟨g, 2, none⟩ v2).setCell ⟨g, 3, none⟩ v3).setCell ⟨g, 4, none⟩ v4) A ∧
    Kp A w (((((w4.setCell ⟨g, 0, none⟩ v0).setCell ⟨g, 1, none⟩ v1).setCell ⟨g, 2, none⟩ v2).setCell ⟨g, 3, none⟩ v3).setCell ⟨g, 4, none⟩ v4) ∧
    (∀ f, f ≠ g → (((((w4.setCell ⟨g, 0, none⟩ v0).setCell ⟨g, 1, none⟩ v1).setCell ⟨g, 2, none⟩ v2).setCell ⟨g, 3, none⟩ v3).setCell ⟨g, 4, none⟩ v4).heap[f]? = w4.heap[f]?) ∧
    (((((w4.setCell ⟨g, 0, none⟩ v0).setCell ⟨g, 1, none⟩ v1).setCell ⟨g, 2, none⟩ v2).setCell ⟨g, 3, none⟩ v3).setCell ⟨g, 4, none⟩ v4).heap.size = w4.heap.size := by
  obtain ⟨e0, e1, e2, e3, e4, hb, hh, hs⟩ := out5 hI v0 v1 v2 v3 v4 g (Nat.le_refl _)
  exact ⟨e0, e1, e2, e3, e4, hc.below hb hA, ((((hk.set hg (by omega) 0 v0).set hg (by omega) 1 v1).set hg (by omega) 2 v2).set hg (by omega) 3 v3).set hg (by omega) 4 v4, hh, hs⟩
/-- The same, and a block was laid. -/
theorem fin2a {w w4 : World} {A g : Nat} {e : TypeId} {u0 u1 : Value} (v0 v1 : Value) (o : Obj) (hI : Is w4 g e #[u0, u1]) (hk : Kp A w w4) (hg : w.heap.size ≤ g) (hc : Cur w4 A) (hA : A < g) :
    (((w4.setCell ⟨g, 0, none⟩ v0).setCell ⟨g, 1, none⟩ v1).alloc o).cell? ⟨g, 0, none⟩ = some v0 ∧ (((w4.setCell ⟨g, 0, none⟩ v0).setCell ⟨g, 1, none⟩ v1).alloc o).cell? ⟨g, 1, none⟩ = some v1 ∧
      Cur (((w4.setCell ⟨g, 0, none⟩ v0).setCell ⟨g, 1, none⟩ v1).alloc o) A ∧ Kp A w (((w4.setCell ⟨g, 0, none⟩ v0).setCell ⟨g, 1, none⟩ v1).alloc o) := by
  obtain ⟨e0, e1⟩ := (((hI.set 0 v0).set 1 v1).alloc o).cells2
  have hc2 := (hc.set hA 0 v0).set hA 1 v1
  exact ⟨e0, e1, hc2.below (below1 _ o) hc2.lt, ((hk.set hg (by omega) 0 v0).set hg (by omega) 1 v1).trans (Kp.alloc (Nat.le_of_lt hc2.lt) o)⟩
end Go.Proofs.YtohfljaaaojjmaaGreatDoor
namespace Go.Proofs.YtohfljaaaojjmaaGreatDoor
open Go.ChangeShapes Go.WideShapes Go.ChangeAt Go.RowKit Go.Joins
set_option linter.unusedVariables false
set_option maxRecDepth 100000
/-! ### Values of one leaf, made by the program -/
/-- An integer or a decimal number. -/
def numV (d : Int × Int) : T := if d.2 = 0 then .mk 3 d.1 0 ⟨#[]⟩ [] else .mk 6 d.1 d.2 ⟨#[]⟩ []
theorem spec_IntVal (n : Int) (w : World) :
    Calls Tryz.prog 142 #[.int .i64 n] w fun e w' => e = .returned (.agg #[.int .i64 3, .int .i64 n, .int .i64 0, .string ⟨#[]⟩, .slice none 0 0]) ∧ Below w.heap.size w w' := by
  go_enter Tryz.func142, Tryz.ntmps142
  go_wp2_with fail
  have q2 := Is.new w #[Value.int IntKind.i64 3, Value.int IntKind.i64 n, Value.int IntKind.i64 0, Value.string ⟨#[]⟩, Value.slice none 0 0] 26
  obtain ⟨e0, e1, e2, e3, e4⟩ := q2.cells5
  refine bodyPost_ret (v := .agg #[.int .i64 3, .int .i64 n, .int .i64 0, .string ⟨#[]⟩, .slice none 0 0]) (by simp [results, Tryz.results142, go_sem, e0, e1, e2, e3, e4]) rfl ⟨rfl, below1 _ _⟩
theorem spec_TextVal (s : ByteArray) (w : World) :
    Calls Tryz.prog 94 #[.string s] w fun e w' => e = .returned (.agg #[.int .i64 7, .int .i64 0, .int .i64 0, .string s, .slice none 0 0]) ∧ Below w.heap.size w w' := by
  go_enter Tryz.func94, Tryz.ntmps94
  go_wp2_with fail
  have q2 := Is.new w #[Value.int IntKind.i64 7, Value.int IntKind.i64 0, Value.int IntKind.i64 0, Value.string s, Value.slice none 0 0] 26
  obtain ⟨e0, e1, e2, e3, e4⟩ := q2.cells5
  refine bodyPost_ret (v := .agg #[.int .i64 7, .int .i64 0, .int .i64 0, .string s, .slice none 0 0]) (by simp [results, Tryz.results94, go_sem, e0, e1, e2, e3, e4]) rfl ⟨rfl, below1 _ _⟩
set_option maxHeartbeats 1000000 in
theorem spec_NumberVal (n x : Int) (w : World) :
    Calls Tryz.prog 145 #[.agg (cF n x)] w fun e w' => e = .returned (.agg (cV (numV (n, x)) none 0)) ∧ Below w.heap.size w w' := by
  by_cases h : x = 0
  · subst h
    rw [show numV (n, 0) = .mk 3 n 0 ⟨#[]⟩ [] from rfl]
    go_enter Tryz.func145, Tryz.ntmps145
    go_wp2_with fail
    generalize hW : (w.alloc (Obj.cells (cF n 0) 90)).alloc (Obj.cells zV 26) = W0
    have q2 : Is W0 (w.heap.size + 1) 26 zV := by subst hW; exact Is.new2 _ _ _ _
    have H0 := Lib.hid (show Below w.heap.size w W0 from by subst hW; exact below2 _ _ _)
    have hs0 : W0.heap.size = w.heap.size + 2 := by subst hW; simp
    clear hW
    refine (spec_IntVal n W0).mono ?_
    rintro ee w2 ⟨rfl, hb⟩
    have p2 := q2.below hb (by omega)
    have HB := Lib.hid (H0.out.trans (hb.mono (by omega)))
    have hl1 : w.heap.size + 1 < w2.heap.size := by have := hb.size; omega
    have ff := fun i => p2.frozen i
    obtain ⟨o0, o1, o2, o3, o4⟩ := p2.cells5
    clear hb
    try dsimp only
    repeat (first | go_values | go_skip | go_guarded | go_step | go_upon)
    obtain ⟨e0, e1, e2, e3, e4, hbel, hold, hsz⟩ := out5 p2.blk (.int .i64 3) (.int .i64 n) (.int .i64 0) (.string ⟨#[]⟩) (.slice none 0 0) w.heap.size (by omega)
    refine bodyPost_ret (v := .agg #[.int .i64 3, .int .i64 n, .int .i64 0, .string ⟨#[]⟩, .slice none 0 0]) (by simp [results, Tryz.results145, go_sem, e0, e1, e2, e3, e4]) rfl ⟨rfl, HB.out.trans hbel⟩
  · have hb : (x == 0) = false := by simpa using h
    rw [show numV (n, x) = .mk 6 n x ⟨#[]⟩ [] from if_neg h]
    go_enter Tryz.func145, Tryz.ntmps145
    go_wp2_with fail
    have q2 : Is ((w.alloc (Obj.cells (cF n x) 90)).alloc (Obj.cells #[Value.int IntKind.i64 6, Value.int IntKind.i64 n, Value.int IntKind.i64 x, Value.string ⟨#[]⟩, Value.slice none 0 0] 26)) (w.heap.size + 1) 26 _ := Is.new2 _ _ _ _
    obtain ⟨e0, e1, e2, e3, e4⟩ := q2.cells5
    refine bodyPost_ret (v := .agg #[.int .i64 6, .int .i64 n, .int .i64 x, .string ⟨#[]⟩, .slice none 0 0]) (by simp [results, Tryz.results145, go_sem, e0, e1, e2, e3, e4]) rfl ⟨rfl, below2 _ _ _⟩
set_option maxHeartbeats 4000000 in
theorem spec_l6FltVal (m x : Int) (w : World) :
    Calls Tryz.prog 90 #[.agg (cF m x)] w fun e w' => e = .returned (.agg #[.int .i64 4, .int .i64 m, .int .i64 x, .string ⟨#[]⟩, .slice none 0 0]) ∧ Below w.heap.size w w' := by
  go_enter Tryz.func90, Tryz.ntmps90
  go_wp2_with fail
  have q2 : Is ((w.alloc (Obj.cells (cF m x) 61)).alloc (Obj.cells #[Value.int IntKind.i64 4, Value.int IntKind.i64 m, Value.int IntKind.i64 x, Value.string ⟨#[]⟩, Value.slice none 0 0] 26)) (w.heap.size + 1) 26 _ := Is.new2 _ _ _ _
  obtain ⟨e0, e1, e2, e3, e4⟩ := q2.cells5
  refine bodyPost_ret (v := .agg #[.int .i64 4, .int .i64 m, .int .i64 x, .string ⟨#[]⟩, .slice none 0 0]) (by simp [results, Tryz.results90, go_sem, e0, e1, e2, e3, e4]) rfl ⟨rfl, below2 _ _ _⟩
end Go.Proofs.YtohfljaaaojjmaaGreatDoor
