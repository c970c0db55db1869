/- Texts of this proof, merged: Drw6, LeafB, Drw2, Drw3, ValF3, DecF. No condition beyond what each theorem states. -/
import Derived.Test.YtfbodhfdomdkpaaGreatDoorRows
import Derived.WalkKit
import Derived.ProofKit
import Derived.OpenShut
import Derived.Handy
import Derived.Lib.Hide
import Derived.Lib.SmallJoins
import Derived.Deep.RegionHeld3
import Derived.Deep.AppendLies
import Derived.Deep.QuietTactic
import Derived.BigQuiet
import Derived.Test.YtfbodhfdomdkpaaGreatDoorZG1
import Derived.Test.YtfbodhfdomdkpaaGreatDoorZG2
import Derived.Test.YtfbodhfdomdkpaaGreatDoorZG3
import Derived.Test.YtfbodhfdomdkpaaGreatDoorZG4
import Derived.Test.YtfbodhfdomdkpaaGreatDoorZG8
import Derived.Test.YtfbodhfdomdkpaaGreatDoorZG16
import Derived.Test.YtfbodhfdomdkpaaGreatDoorZG13
import Derived.Test.YtfbodhfdomdkpaaGreatDoorZG14
import Derived.Test.YtfbodhfdomdkpaaGreatDoorZG17
import Derived.Test.YtfbodhfdomdkpaaGreatDoorZG15
import Derived.Laws.BytesArg
import Derived.Lib.ItoaNum
import Derived.Lib.ItoaLen
import Derived.Lib.AppendIntMem
import Derived.Lib.ValidLaws
import Derived.Lib.ValidAsc
import Derived.Test.YtfbodhfdomdkpaaGreatDoorShelf
import Derived.Test.YtfbodhfdomdkpaaGreatDoorZG6
set_option linter.unusedSimpArgs false
set_option linter.unnecessarySimpa false
namespace Go.Proofs.YtfbodhfdomdkpaaGreatDoor
open Go.ChangeShapes Go.WideShapes Go.ChangeAt Go.RowKit Go.Joins
set_option linter.unusedVariables false
set_option maxRecDepth 100000
section
variable {α : Type} {E : World → Nat → Nat → α → List Nat → Prop} {n : Nat} {e : TypeId}
theorem AppL.lower {w : World} {rlo r' cap : Nat} {a : Option Addr} {l : List α} (h : AppL E n e w rlo a cap l []) (hr : r' ≤ rlo) : AppL E n e w r' a cap l [] := by
  rcases h with h | ⟨g, cur, h0, h1, h2⟩
  · exact Or.inl h
  · obtain ⟨h3, h4, h5, h6, h7, _⟩ := h2
    exact Or.inr ⟨g, cur, h0, Nat.le_trans hr h1, h3, h4, h5, h6, h7, by simp⟩
theorem AppL.kp (hE : Elem E n) {w w' : World} {A rlo cap : Nat} {a : Option Addr} {l : List α} {F : List Nat} (h : AppL E n e w rlo a cap l F) (hk : Kp A w w') (hA : A < rlo) (hr : rlo ≤ w.heap.size) (hF : ∀ f ∈ F, f ≠ A) : AppL E n e w' rlo a cap l F := by
  rcases h with h | ⟨g, cur, ha, h1, h3, h4, h5, h6, h7, h8⟩
  · exact Or.inl h
  · have hg : g < w.heap.size := (Array.getElem?_eq_some_iff.1 h3).1
    have hgb := hk.heap g (by omega) hg
    exact Or.inr ⟨g, cur, ha, h1, hgb.trans h3, h4, h5, h6, h7.agree hE.loc l (Cells.of_block hgb _ _) (fun f hf => hk.heap f (hF f hf) (by have := h8 f hf; omega)), h8⟩
theorem Kp.grow {A : Nat} {w w1 w2 : World} (h : Kp A w w1) (hb : Below w.heap.size w1 w2) (hA : A ≤ w.heap.size) : Kp A w w2 := ⟨h.1.trans (hb.mono hA), fun f hf hl => (hb.block f hl).trans (h.2 f hf hl)⟩
end
theorem info_Int3 : (Tryz.prog.info? 3).map (fun i => (i.zero, i.size, i.bytes)) = some (some (.int .i64 0), 1, 8) := by kernel_rfl
set_option maxHeartbeats 4000000 in
theorem spec_FromRunes (l : List Int) (a : Option Addr) (cap B : Nat) (w : World) (hr : Rd EInt 1 w B a cap l) (hB : B ≤ w.heap.size) (hok : ∀ x ∈ l, runeOk x) (hl : l.length ≤ 1000) :
    Calls Tryz.prog 260 #[.slice a l.length cap] w fun e w' => ∃ s : ByteArray, e = .returned (.string s) ∧ s.size ≤ 4 * l.length ∧ Below w.heap.size w w' := by
  obtain ⟨hlc, hcap⟩ := hr.len
  have HR := Lib.hid hr; clear hr
  have HO := Lib.hid hok; clear hok
  have h0 := AppL.empty (E := EByte) (n := 1) (e := 5) w w.heap.size (Nat.le_refl _)
  go_enter Tryz.func260, Tryz.ntmps260
  go_wp2_with fail
  go_loopw [3, 4] (fun q i wr => ∃ (j : Nat) (bs : List Int) (ar : Option Addr) (cr : Nat), j ≤ l.length ∧ i = .int .i64 j ∧ q = .slice ar bs.length cr ∧ bs.length ≤ 4 * j ∧ AppL EByte 1 5 wr w.heap.size ar cr bs [] ∧ Below w.heap.size w wr) (fun _ i _ => l.length - (intOf i).toNat)
  case atStart => exact ⟨0, [], _, _, Nat.zero_le _, rfl, rfl, by simp, h0, below1 _ _⟩
  case round =>
    obtain ⟨j, bs, ar, cr, hj, rfl, rfl, hbl, happ, hb⟩ := hrel
    have hbs := hb.size
    have HA := Lib.hid happ; clear happ
    by_cases hlt : j < l.length
    · have hltz : (j : Int) < (l.length : Int) := by omega
      obtain ⟨b, o, rfl, hbl2, hcell, hx0, hx1⟩ := (HR.out.below EInt.loc hb hB).int j hlt
      have hlb : b < wr.heap.size := by omega
      have hro := HO.out l[j] (List.getElem_mem hlt)
      generalize l[j] = x at *
      go_wp2_with fail
      refine (spec_PutRune bs x ar cr wr.heap.size wr (HA.out.rd hbs) hro (by omega) (Nat.le_refl _)).mono ?_
      rintro e w2 ⟨a', cap', rfl, happ2, hb2⟩
      have hen := (encN_len x).2
      have hln : (bs ++ encN x).length ≤ 4 * (j + 1) := by rw [List.length_append]; omega
      generalize bs ++ encN x = bs2 at *
      go_wp2_with fail
      go_roundw
      case rel => exact ⟨j + 1, bs2, a', cap', by omega, by go_num, rfl, hln, happ2.lower hbs, hb.trans (hb2.mono hbs)⟩
      case measure => simp [intOf]; omega
    · have hltz : ¬ (j : Int) < (l.length : Int) := by omega
      have hcv := conv_bytes wr w.heap.size ar cr _ [] HA.out
      have hsz := strOfNums_size bs
      generalize strOfNums bs = O at *
      go_wp2_with fail
      go_ret
      exact ⟨O, rfl, by omega, hb⟩
set_option maxHeartbeats 4000000 in
theorem spec_l2Rune (A : Nat) (w : World) (hc : Cur w A) : Calls Tryz.prog 259 #[.pointer (some ⟨A, 0, none⟩)] w fun e w' => ∃ n, I64 n ∧ runeOk n ∧ e = .returned (.int .i64 n) ∧ Cur w' A ∧ Kp A w w' := by
  have HC := Lib.hid hc; clear hc
  go_enter Tryz.func259, Tryz.ntmps259
  go_wp2_with fail
  refine (spec_l1IntL A [0, 97, 98, 34, 92, 10, 127, 128, 233, 2047, 2048, 8364, 55295, 57344, 65535, 65536, 128512, 1114111] _ w HC.out (by decide) (by decide) (by decide)).mono ?_
  rintro e w3 ⟨y, hm, hy, rfl, hc3, hk3⟩
  have hro : runeOk y := by
    revert y
    unfold runeOk
    decide
  go_wp2_with fail
  go_ret
  exact ⟨y, hy, hro, rfl, hc3, hk3⟩
set_option maxHeartbeats 8000000 in
theorem spec_l2Text (A : Nat) (w : World) (hc : Cur w A) : Calls Tryz.prog 198 #[.pointer (some ⟨A, 0, none⟩)] w fun e w' => ∃ s : ByteArray, s.size ≤ 12 ∧ e = .returned (.string s) ∧ Cur w' A ∧ Kp A w w' := by
  have HC := Lib.hid hc
  have hlA := hc.lt
  clear hc
  go_enter Tryz.func198, Tryz.ntmps198
  go_wp2_with fail
  refine (spec_l1Once A 2 w HC.out ⟨by decide, by decide⟩).mono ?_
  rintro e w2 ⟨b, rfl, hc2, hk2⟩
  have HC2 := Lib.hid hc2; have HK2 := Lib.hid hk2; clear hc2 hk2
  have hs2 := HK2.out.size
  cases b with
  | true =>
    go_wp2_with fail
    refine (spec_l1StrL A [⟨#[]⟩, ⟨#[97]⟩, ⟨#[98]⟩, ⟨#[107, 101, 121]⟩, ⟨#[120, 32, 121]⟩, ⟨#[49]⟩, ⟨#[195, 169]⟩, ⟨#[34]⟩, ⟨#[92]⟩] _ w2 HC2.out (by decide) (by decide)).mono ?_
    rintro e w3 ⟨y, hm, rfl, hc3, hk3⟩
    have hsz : y.size ≤ 12 := by
      simp only [List.mem_cons, List.not_mem_nil, or_false] at hm
      rcases hm with rfl | rfl | rfl | rfl | rfl | rfl | rfl | rfl | rfl <;> decide
    clear hm
    go_wp2_with fail
    go_ret
    exact ⟨y, hsz, rfl, hc3, HK2.out.trans hk3⟩
  | false =>
    have HA0 := Lib.hid (AppL.empty (E := EInt) (n := 1) (e := 3) w2 w.heap.size HK2.out.size)
    have hcA := HC2.out.below (below1 w2 (.cells #[] 3)) HC2.out.lt
    have hkA := HK2.out.trans (Kp.alloc (Nat.le_of_lt HC2.out.lt) (.cells #[] 3))
    go_wp2_with fail
    refine (spec_l1Below A 4 _ hcA ⟨by decide, by decide⟩).mono ?_
    rintro e w3 ⟨k, rfl, hk, hk2, hc3, hk3⟩
    have hs3 := hk3.size
    rw [size_alloc] at hs3
    have HA3 := Lib.hid (HA0.out.kp EInt.elem hk3 hlA (by rw [size_alloc]; omega) (by simp))
    have HC3 := Lib.hid hc3; have HK3 := Lib.hid (hkA.trans hk3); clear hc3 hk3 hcA hkA HA0
    have hk4 : k ≤ 3 := by omega
    go_wp2_with fail
    go_loopw [3, 4] (fun q i wr => ∃ (j : Nat) (xs : List Int) (ar : Option Addr) (cr : Nat), i = .int .i64 j ∧ xs.length + j ≤ 3 ∧ (∀ x ∈ xs, runeOk x) ∧ q = .slice ar xs.length cr ∧ AppL EInt 1 3 wr w.heap.size ar cr xs [] ∧ Cur wr A ∧ Kp A w wr) (fun _ i _ => (intOf i).toNat)
    case atStart => exact ⟨k, [], _, _, rfl, by simpa using hk4, by simp, rfl, HA3.out, HC3.out, HK3.out⟩
    case round =>
      obtain ⟨j, xs, ar, cr, rfl, hj, hx, rfl, happ, hcr, hkr⟩ := hrel
      have HA := Lib.hid happ; have HC4 := Lib.hid hcr; have HK4 := Lib.hid hkr; have HX := Lib.hid hx; clear happ hcr hkr hx
      have hs4 := HK4.out.size
      by_cases hj0 : 0 < j
      · have hjz : (0 : Int) < (j : Int) := by omega
        go_wp2_with fail
        refine (spec_l2Rune A wr HC4.out).mono ?_
        rintro e w5 ⟨n, hn, hro, rfl, hc5, hk5⟩
        have hs5 := hk5.size
        have HA5 := Lib.hid (HA.out.kp EInt.elem hk5 hlA hs4 (by simp))
        have HC5 := Lib.hid hc5; have HK5 := Lib.hid (HK4.out.trans hk5); clear hc5 hk5
        have HN5 := Lib.hid (HA5.out.agree EInt.elem (fun f hf => (below1 w5 (.cells #[Value.int .i64 n] 3)).block f hf) (by omega))
        have HC6 := Lib.hid (HC5.out.below (below1 w5 (.cells #[Value.int .i64 n] 3)) HC5.out.lt)
        have HK6 := Lib.hid (HK5.out.trans (Kp.alloc (Nat.le_of_lt HC5.out.lt) (.cells #[Value.int .i64 n] 3)))
        go_wp2_with (at_builtin; refine wpList_appL EInt.elem rfl _ _ 52 rfl (.int .i64 0) 8 Tryz.underlying52 info_Int3 rfl w.heap.size ar cr xs [] rfl HN5.out (by simp; omega) w5.heap.size 0 1 1 [n] [] rfl rfl ⟨[], [], rfl, ⟨rfl, (Is.new w5 #[Value.int .i64 n] 3).cell 0 rfl, hn⟩, rfl⟩ (by simp) (by omega) (by unfold maxLen; omega) (by omega) ?_; intro ar2 cr2 w6 happ6 hb6)
        go_roundw
        case rel =>
          refine ⟨j - 1, xs ++ [n], ar2, cr2, by go_num, by rw [List.length_append]; simp; omega, fun x hx => ?_, by rw [List.length_append]; rfl, happ6, HC6.out.below hb6 hlA, Kp.grow HK6.out hb6 (Nat.le_of_lt hlA)⟩
          rcases List.mem_append.1 hx with hx | hx
          · exact HX.out x hx
          · rw [List.mem_singleton.1 hx]; exact hro
        case measure => simp [intOf]; omega
      · have hjz : ¬ (0 : Int) < (j : Int) := by omega
        go_wp2_with fail
        refine (spec_FromRunes xs ar cr wr.heap.size wr (HA.out.rd hs4) (Nat.le_refl _) HX.out (by omega)).mono ?_
        rintro e w5 ⟨s, rfl, hs, hb5⟩
        go_wp2_with fail
        go_ret
        exact ⟨s, by omega, rfl, HC4.out.below hb5 HC4.out.lt, HK4.out.trans (Kp.of_below hb5 (Nat.le_refl _) (Nat.le_of_lt HC4.out.lt))⟩
set_option maxHeartbeats 8000000 in
theorem spec_l1Bytes (A n : Nat) (w : World) (hc : Cur w A) (hn : n ≤ 1000) : Calls Tryz.prog 199 #[.pointer (some ⟨A, 0, none⟩), .int .i64 n] w fun e w' => ∃ (bs : List Int) (a : Option Addr) (cap : Nat), bs.length = n ∧ e = .returned (.slice a bs.length cap) ∧ AppL EByte 1 5 w' w.heap.size a cap bs [] ∧ Cur w' A ∧ Kp A w w' := by
  have HC := Lib.hid hc
  have hlA := hc.lt
  have HA0 := Lib.hid (AppL.empty (E := EByte) (n := 1) (e := 5) w w.heap.size (Nat.le_refl _))
  have HC2 := Lib.hid (hc.below (below1 w (.cells #[] 5)) hc.lt)
  have HK2 := Lib.hid (Kp.alloc (w := w) (Nat.le_of_lt hc.lt) (.cells #[] 5))
  clear hc
  go_enter Tryz.func199, Tryz.ntmps199
  go_wp2_with fail
  go_loopw [5, 6] (fun q i wr => ∃ (xs : List Int) (ar : Option Addr) (cr : Nat), i = .int .i64 xs.length ∧ xs.length ≤ n ∧ q = .slice ar xs.length cr ∧ AppL EByte 1 5 wr w.heap.size ar cr xs [] ∧ Cur wr A ∧ Kp A w wr) (fun _ i _ => n - (intOf i).toNat)
  case atStart => exact ⟨[], _, _, rfl, Nat.zero_le _, rfl, HA0.out, HC2.out, HK2.out⟩
  case round =>
    obtain ⟨xs, ar, cr, rfl, hjn, rfl, happ, hcr, hkr⟩ := hrel
    have HA := Lib.hid happ; have HC4 := Lib.hid hcr; have HK4 := Lib.hid hkr; clear happ hcr hkr
    have hs4 := HK4.out.size
    by_cases hj0 : xs.length < n
    · have hjz : (xs.length : Int) < (n : Int) := by omega
      go_wp2_with fail
      refine (spec_l1Byte A wr HC4.out).mono ?_
      rintro e w5 ⟨x, rfl, hx, hc5, hk5⟩
      have hs5 := hk5.size
      have HA5 := Lib.hid (HA.out.kp EByte.elem hk5 hlA hs4 (by simp))
      have HC5 := Lib.hid hc5; have HK5 := Lib.hid (HK4.out.trans hk5); clear hc5 hk5
      have hwu : IntKind.u8.wrap (x : Int) = x := by rw [IntKind.wrap_u8]; omega
      have HN5 := Lib.hid (HA5.out.agree EByte.elem (fun f hf => (below1 w5 (.cells #[Value.int .u8 x] 5)).block f hf) (by omega))
      have HC6 := Lib.hid (HC5.out.below (below1 w5 (.cells #[Value.int .u8 x] 5)) HC5.out.lt)
      have HK6 := Lib.hid (HK5.out.trans (Kp.alloc (Nat.le_of_lt HC5.out.lt) (.cells #[Value.int .u8 x] 5)))
      go_wp2_with (at_builtin; refine wpList_appL EByte.elem rfl _ _ 22 rfl (.int .u8 0) 1 Tryz.underlying22 info_Byte2 rfl w.heap.size ar cr xs [] rfl HN5.out (by simp; omega) w5.heap.size 0 1 1 [(x : Int)] [] rfl rfl ⟨[], [], rfl, ⟨rfl, (Is.new w5 #[Value.int .u8 x] 5).cell 0 rfl, ⟨by omega, by omega⟩⟩, rfl⟩ (by simp) (by omega) (by unfold maxLen; omega) (by omega) ?_; intro ar2 cr2 w6 happ6 hb6)
      go_roundw
      case rel => exact ⟨xs ++ [(x : Int)], ar2, cr2, by rw [List.length_append]; go_num, by rw [List.length_append]; simp; omega, by rw [List.length_append]; rfl, happ6, HC6.out.below hb6 hlA, Kp.grow HK6.out hb6 (Nat.le_of_lt hlA)⟩
      case measure => simp [intOf]; omega
    · have hjz : ¬ (xs.length : Int) < (n : Int) := by omega
      go_wp2_with fail
      go_ret
      exact ⟨xs, by omega, ar, cr, rfl, HA.out, HC4.out, HK4.out⟩
end Go.Proofs.YtfbodhfdomdkpaaGreatDoor
namespace Go.Proofs.YtfbodhfdomdkpaaGreatDoor
open Go.ChangeShapes Go.WideShapes Go.ChangeAt Go.RowKit Go.Joins
set_option linter.unusedVariables false
set_option maxRecDepth 100000
/-! ### Values of one leaf, made by the program -/
/-- An integer or a decimal number. -/
def numV (d : Int × Int) : T := if d.2 = 0 then .mk 3 d.1 0 ⟨#[]⟩ [] else .mk 6 d.1 d.2 ⟨#[]⟩ []
theorem spec_IntVal (n : Int) (w : World) :
    Calls Tryz.prog 192 #[.int .i64 n] w fun e w' => e = .returned (.agg #[.int .i64 3, .int .i64 n, .int .i64 0, .string ⟨#[]⟩, .slice none 0 0]) ∧ Below w.heap.size w w' := by
  go_enter Tryz.func192, Tryz.ntmps192
  go_wp2_with fail
  have q2 := Is.new w #[Value.int IntKind.i64 3, Value.int IntKind.i64 n, Value.int IntKind.i64 0, Value.string ⟨#[]⟩, Value.slice none 0 0] 36
  obtain ⟨e0, e1, e2, e3, e4⟩ := q2.cells5
  refine bodyPost_ret (v := .agg #[.int .i64 3, .int .i64 n, .int .i64 0, .string ⟨#[]⟩, .slice none 0 0]) (by simp [results, Tryz.results192, go_sem, e0, e1, e2, e3, e4]) rfl ⟨rfl, below1 _ _⟩
theorem impl_IntVal (n : Int) (w : World) :
    Calls Tryz.prog 248 #[.int .i64 n] w fun e w' => e = .returned (.agg #[.int .i64 3, .int .i64 n, .int .i64 0, .string ⟨#[]⟩, .slice none 0 0]) ∧ Below w.heap.size w w' := by
  go_enter Tryz.func248, Tryz.ntmps248
  go_wp2_with fail
  have q2 := Is.new w #[Value.int IntKind.i64 3, Value.int IntKind.i64 n, Value.int IntKind.i64 0, Value.string ⟨#[]⟩, Value.slice none 0 0] 36
  obtain ⟨e0, e1, e2, e3, e4⟩ := q2.cells5
  refine bodyPost_ret (v := .agg #[.int .i64 3, .int .i64 n, .int .i64 0, .string ⟨#[]⟩, .slice none 0 0]) (by simp [results, Tryz.results248, go_sem, e0, e1, e2, e3, e4]) rfl ⟨rfl, below1 _ _⟩
theorem spec_TextVal (s : ByteArray) (w : World) :
    Calls Tryz.prog 99 #[.string s] w fun e w' => e = .returned (.agg #[.int .i64 7, .int .i64 0, .int .i64 0, .string s, .slice none 0 0]) ∧ Below w.heap.size w w' := by
  go_enter Tryz.func99, Tryz.ntmps99
  go_wp2_with fail
  have q2 := Is.new w #[Value.int IntKind.i64 7, Value.int IntKind.i64 0, Value.int IntKind.i64 0, Value.string s, Value.slice none 0 0] 36
  obtain ⟨e0, e1, e2, e3, e4⟩ := q2.cells5
  refine bodyPost_ret (v := .agg #[.int .i64 7, .int .i64 0, .int .i64 0, .string s, .slice none 0 0]) (by simp [results, Tryz.results99, go_sem, e0, e1, e2, e3, e4]) rfl ⟨rfl, below1 _ _⟩
theorem impl_TextVal (s : ByteArray) (w : World) :
    Calls Tryz.prog 94 #[.string s] w fun e w' => e = .returned (.agg #[.int .i64 7, .int .i64 0, .int .i64 0, .string s, .slice none 0 0]) ∧ Below w.heap.size w w' := by
  go_enter Tryz.func94, Tryz.ntmps94
  go_wp2_with fail
  have q2 := Is.new w #[Value.int IntKind.i64 7, Value.int IntKind.i64 0, Value.int IntKind.i64 0, Value.string s, Value.slice none 0 0] 36
  obtain ⟨e0, e1, e2, e3, e4⟩ := q2.cells5
  refine bodyPost_ret (v := .agg #[.int .i64 7, .int .i64 0, .int .i64 0, .string s, .slice none 0 0]) (by simp [results, Tryz.results94, go_sem, e0, e1, e2, e3, e4]) rfl ⟨rfl, below1 _ _⟩
set_option maxHeartbeats 1000000 in
theorem spec_NumberVal (n x : Int) (w : World) :
    Calls Tryz.prog 196 #[.agg (cF n x)] w fun e w' => e = .returned (.agg (cV (numV (n, x)) none 0)) ∧ Below w.heap.size w w' := by
  by_cases h : x = 0
  · subst h
    rw [show numV (n, 0) = .mk 3 n 0 ⟨#[]⟩ [] from rfl]
    go_enter Tryz.func196, Tryz.ntmps196
    go_wp2_with fail
    generalize hW : (w.alloc (Obj.cells (cF n 0) 143)).alloc (Obj.cells zV 36) = W0
    have q2 : Is W0 (w.heap.size + 1) 36 zV := by subst hW; exact Is.new2 _ _ _ _
    have H0 := Lib.hid (show Below w.heap.size w W0 from by subst hW; exact below2 _ _ _)
    have hs0 : W0.heap.size = w.heap.size + 2 := by subst hW; simp
    clear hW
    refine (spec_IntVal n W0).mono ?_
    rintro ee w2 ⟨rfl, hb⟩
    have p2 := q2.below hb (by omega)
    have HB := Lib.hid (H0.out.trans (hb.mono (by omega)))
    have hl1 : w.heap.size + 1 < w2.heap.size := by have := hb.size; omega
    have ff := fun i => p2.frozen i
    obtain ⟨o0, o1, o2, o3, o4⟩ := p2.cells5
    clear hb
    try dsimp only
    repeat (first | go_values | go_skip | go_guarded | go_step | go_upon)
    obtain ⟨e0, e1, e2, e3, e4, hbel, hold, hsz⟩ := out5 p2.blk (.int .i64 3) (.int .i64 n) (.int .i64 0) (.string ⟨#[]⟩) (.slice none 0 0) w.heap.size (by omega)
    refine bodyPost_ret (v := .agg #[.int .i64 3, .int .i64 n, .int .i64 0, .string ⟨#[]⟩, .slice none 0 0]) (by simp [results, Tryz.results196, go_sem, e0, e1, e2, e3, e4]) rfl ⟨rfl, HB.out.trans hbel⟩
  · have hb : (x == 0) = false := by simpa using h
    rw [show numV (n, x) = .mk 6 n x ⟨#[]⟩ [] from if_neg h]
    go_enter Tryz.func196, Tryz.ntmps196
    go_wp2_with fail
    have q2 : Is ((w.alloc (Obj.cells (cF n x) 143)).alloc (Obj.cells #[Value.int IntKind.i64 6, Value.int IntKind.i64 n, Value.int IntKind.i64 x, Value.string ⟨#[]⟩, Value.slice none 0 0] 36)) (w.heap.size + 1) 36 _ := Is.new2 _ _ _ _
    obtain ⟨e0, e1, e2, e3, e4⟩ := q2.cells5
    refine bodyPost_ret (v := .agg #[.int .i64 6, .int .i64 n, .int .i64 x, .string ⟨#[]⟩, .slice none 0 0]) (by simp [results, Tryz.results196, go_sem, e0, e1, e2, e3, e4]) rfl ⟨rfl, below2 _ _ _⟩
set_option maxHeartbeats 1000000 in
theorem impl_NumberVal (n x : Int) (w : World) :
    Calls Tryz.prog 217 #[.agg (cF n x)] w fun e w' => e = .returned (.agg (cV (numV (n, x)) none 0)) ∧ Below w.heap.size w w' := by
  by_cases h : x = 0
  · subst h
    rw [show numV (n, 0) = .mk 3 n 0 ⟨#[]⟩ [] from rfl]
    go_enter Tryz.func217, Tryz.ntmps217
    go_wp2_with fail
    generalize hW : (w.alloc (Obj.cells (cF n 0) 143)).alloc (Obj.cells zV 36) = W0
    have q2 : Is W0 (w.heap.size + 1) 36 zV := by subst hW; exact Is.new2 _ _ _ _
    have H0 := Lib.hid (show Below w.heap.size w W0 from by subst hW; exact below2 _ _ _)
    have hs0 : W0.heap.size = w.heap.size + 2 := by subst hW; simp
    clear hW
    refine (impl_IntVal n W0).mono ?_
    rintro ee w2 ⟨rfl, hb⟩
    have p2 := q2.below hb (by omega)
    have HB := Lib.hid (H0.out.trans (hb.mono (by omega)))
    have hl1 : w.heap.size + 1 < w2.heap.size := by have := hb.size; omega
    have ff := fun i => p2.frozen i
    obtain ⟨o0, o1, o2, o3, o4⟩ := p2.cells5
    clear hb
    try dsimp only
    repeat (first | go_values | go_skip | go_guarded | go_step | go_upon)
    obtain ⟨e0, e1, e2, e3, e4, hbel, hold, hsz⟩ := out5 p2.blk (.int .i64 3) (.int .i64 n) (.int .i64 0) (.string ⟨#[]⟩) (.slice none 0 0) w.heap.size (by omega)
    refine bodyPost_ret (v := .agg #[.int .i64 3, .int .i64 n, .int .i64 0, .string ⟨#[]⟩, .slice none 0 0]) (by simp [results, Tryz.results217, go_sem, e0, e1, e2, e3, e4]) rfl ⟨rfl, HB.out.trans hbel⟩
  · have hb : (x == 0) = false := by simpa using h
    rw [show numV (n, x) = .mk 6 n x ⟨#[]⟩ [] from if_neg h]
    go_enter Tryz.func217, Tryz.ntmps217
    go_wp2_with fail
    have q2 : Is ((w.alloc (Obj.cells (cF n x) 143)).alloc (Obj.cells #[Value.int IntKind.i64 6, Value.int IntKind.i64 n, Value.int IntKind.i64 x, Value.string ⟨#[]⟩, Value.slice none 0 0] 36)) (w.heap.size + 1) 36 _ := Is.new2 _ _ _ _
    obtain ⟨e0, e1, e2, e3, e4⟩ := q2.cells5
    refine bodyPost_ret (v := .agg #[.int .i64 6, .int .i64 n, .int .i64 x, .string ⟨#[]⟩, .slice none 0 0]) (by simp [results, Tryz.results217, go_sem, e0, e1, e2, e3, e4]) rfl ⟨rfl, below2 _ _ _⟩
set_option maxHeartbeats 4000000 in
theorem spec_l6FltVal (m x : Int) (w : World) :
    Calls Tryz.prog 194 #[.agg (cF m x)] w fun e w' => e = .returned (.agg #[.int .i64 4, .int .i64 m, .int .i64 x, .string ⟨#[]⟩, .slice none 0 0]) ∧ Below w.heap.size w w' := by
  go_enter Tryz.func194, Tryz.ntmps194
  go_wp2_with fail
  have q2 : Is ((w.alloc (Obj.cells (cF m x) 109)).alloc (Obj.cells #[Value.int IntKind.i64 4, Value.int IntKind.i64 m, Value.int IntKind.i64 x, Value.string ⟨#[]⟩, Value.slice none 0 0] 36)) (w.heap.size + 1) 36 _ := Is.new2 _ _ _ _
  obtain ⟨e0, e1, e2, e3, e4⟩ := q2.cells5
  refine bodyPost_ret (v := .agg #[.int .i64 4, .int .i64 m, .int .i64 x, .string ⟨#[]⟩, .slice none 0 0]) (by simp [results, Tryz.results194, go_sem, e0, e1, e2, e3, e4]) rfl ⟨rfl, below2 _ _ _⟩
end Go.Proofs.YtfbodhfdomdkpaaGreatDoor
namespace Go.Proofs.YtfbodhfdomdkpaaGreatDoor
open Go.ChangeShapes Go.WideShapes Go.ChangeAt Go.RowKit Go.Joins
set_option linter.unusedVariables false
set_option maxRecDepth 100000
set_option maxHeartbeats 4000000 in
theorem spec_l1Num (A : Nat) (w : World) (hc : Cur w A) : Calls Tryz.prog 257 #[.pointer (some ⟨A, 0, none⟩)] w fun e w' => ∃ n, I64 n ∧ e = .returned (.int .i64 n) ∧ Cur w' A ∧ Kp A w w' := by
  have HC := Lib.hid hc; clear hc
  go_enter Tryz.func257, Tryz.ntmps257
  go_wp2_with fail
  refine (spec_l1Below A 5 w HC.out ⟨by decide, by decide⟩).mono ?_
  rintro e w2 ⟨x, rfl, hx, _, hc2, hk2⟩
  have HC2 := Lib.hid hc2; have HK2 := Lib.hid hk2; clear hc2 hk2
  have hx5 : x < 5 := by omega
  clear hx
  rcases (show x = 0 ∨ x = 1 ∨ x = 2 ∨ x = 3 ∨ x = 4 by omega) with rfl | rfl | rfl | rfl | rfl
  · go_wp2_with fail
    refine (spec_l1Below A 70000 w2 HC2.out ⟨by decide, by decide⟩).mono ?_
    rintro e w3 ⟨y, rfl, hy, hy2, hc3, hk3⟩
    go_wp2_with fail
    go_ret
    exact ⟨y, ⟨by omega, by omega⟩, rfl, hc3, HK2.out.trans hk3⟩
  · go_wp2_with fail
    refine (spec_l1IntL A [0, 1, 9, 10, 255, 256, 65535, 65536, 1000000000000000] _ w2 HC2.out (by decide) (by decide) (by decide)).mono ?_
    rintro e w3 ⟨y, hm, hy, rfl, hc3, hk3⟩
    go_wp2_with fail
    go_ret
    exact ⟨y, hy, rfl, hc3, HK2.out.trans hk3⟩
  · go_wp2_with fail
    refine (spec_l1Below A 1000000 w2 HC2.out ⟨by decide, by decide⟩).mono ?_
    rintro e w3 ⟨y, rfl, hy, hy2, hc3, hk3⟩
    have HC3 := Lib.hid hc3; have HK3 := Lib.hid (HK2.out.trans hk3); clear hc3 hk3
    go_wp2_with fail
    refine (spec_l1Below A 1000000 w3 HC3.out ⟨by decide, by decide⟩).mono ?_
    rintro e w4 ⟨z, rfl, hz, hz2, hc4, hk4⟩
    go_wp2_with fail
    go_ret
    trace_state
    exact ⟨_, wrap_i64 _, rfl, hc4, HK3.out.trans hk4⟩
  · go_wp2_with fail
    refine (spec_l1Below A 50 w2 HC2.out ⟨by decide, by decide⟩).mono ?_
    rintro e w3 ⟨y, rfl, hy, hy2, hc3, hk3⟩
    have hy0 : (0 : Int) ≤ (y : Int) := by omega
    go_wp2_with fail
    trace_state
    go_ret
    exact ⟨_, wrap_i64 _, rfl, hc3, HK2.out.trans hk3⟩
  · go_wp2_with fail
    refine (spec_l1Below A 30 w2 HC2.out ⟨by decide, by decide⟩).mono ?_
    rintro e w3 ⟨y, rfl, hy, hy2, hc3, hk3⟩
    go_wp2_with fail
    go_ret
    exact ⟨y, ⟨by omega, by omega⟩, rfl, hc3, HK2.out.trans hk3⟩
set_option maxHeartbeats 4000000 in
theorem spec_l1Signed (A : Nat) (w : World) (hc : Cur w A) : Calls Tryz.prog 193 #[.pointer (some ⟨A, 0, none⟩)] w fun e w' => ∃ n, I64 n ∧ e = .returned (.int .i64 n) ∧ Cur w' A ∧ Kp A w w' := by
  have HC := Lib.hid hc; clear hc
  go_enter Tryz.func193, Tryz.ntmps193
  go_wp2_with fail
  refine (spec_l1Once A 2 w HC.out ⟨by decide, by decide⟩).mono ?_
  rintro e w2 ⟨b, rfl, hc2, hk2⟩
  have HC2 := Lib.hid hc2; have HK2 := Lib.hid hk2; clear hc2 hk2
  cases b with
  | true =>
    go_wp2_with fail
    refine (spec_l1Num A w2 HC2.out).mono ?_
    rintro e w3 ⟨y, ⟨hy0, hy1⟩, rfl, hc3, hk3⟩
    go_wp2_with fail
    go_ret
    exact ⟨_, wrap_i64 _, rfl, hc3, HK2.out.trans hk3⟩
  | false =>
    go_wp2_with fail
    refine (spec_l1Num A w2 HC2.out).mono ?_
    rintro e w3 ⟨y, hy, rfl, hc3, hk3⟩
    go_wp2_with fail
    go_ret
    exact ⟨y, hy, rfl, hc3, HK2.out.trans hk3⟩
set_option maxHeartbeats 4000000 in
theorem spec_l1Odd (A : Nat) (w : World) (hc : Cur w A) : Calls Tryz.prog 209 #[.pointer (some ⟨A, 0, none⟩)] w fun e w' => ∃ n, I64 n ∧ e = .returned (.int .i64 n) ∧ Cur w' A ∧ Kp A w w' := by
  have HC := Lib.hid hc; clear hc
  go_enter Tryz.func209, Tryz.ntmps209
  go_wp2_with fail
  refine (spec_l1IntL A [-1, 0, 1, 2, 255, 256, 65535, 2147483647, 2147483648, 4294967295, 4294967296, -2147483648, 9223372036854775807, -9223372036854775808] _ w HC.out (by decide) (by decide) (by decide)).mono ?_
  rintro e w3 ⟨y, hm, hy, rfl, hc3, hk3⟩
  go_wp2_with fail
  go_ret
  exact ⟨y, hy, rfl, hc3, hk3⟩
set_option maxHeartbeats 4000000 in
theorem spec_l1Raw (A : Nat) (w : World) (hc : Cur w A) : Calls Tryz.prog 147 #[.pointer (some ⟨A, 0, none⟩)] w fun e w' => ∃ n, I64 n ∧ e = .returned (.int .i64 n) ∧ Cur w' A ∧ Kp A w w' := by
  have HC := Lib.hid hc; clear hc
  go_enter Tryz.func147, Tryz.ntmps147
  go_wp2_with fail
  refine (spec_l1Once A 2 w HC.out ⟨by decide, by decide⟩).mono ?_
  rintro e w2 ⟨b, rfl, hc2, hk2⟩
  have HC2 := Lib.hid hc2; have HK2 := Lib.hid hk2; clear hc2 hk2
  cases b with
  | true =>
    go_wp2_with fail
    refine (spec_l1Odd A w2 HC2.out).mono ?_
    rintro e w3 ⟨y, hy, rfl, hc3, hk3⟩
    go_wp2_with fail
    go_ret
    exact ⟨y, hy, rfl, hc3, HK2.out.trans hk3⟩
  | false =>
    go_wp2_with fail
    refine (spec_l1IntL A [-1, 1000000000000001, -1000000000000001] _ w2 HC2.out (by decide) (by decide) (by decide)).mono ?_
    rintro e w3 ⟨y, hm, hy, rfl, hc3, hk3⟩
    go_wp2_with fail
    go_ret
    exact ⟨y, hy, rfl, hc3, HK2.out.trans hk3⟩
end Go.Proofs.YtfbodhfdomdkpaaGreatDoor
namespace Go.Proofs.YtfbodhfdomdkpaaGreatDoor
open Go.ChangeShapes Go.WideShapes Go.ChangeAt Go.RowKit Go.Joins
set_option linter.unusedVariables false
set_option maxRecDepth 100000
set_option maxHeartbeats 8000000 in
theorem spec_l5Draw (A : Nat) (w : World) (hc : Cur w A) : Calls Tryz.prog 195 #[.pointer (some ⟨A, 0, none⟩)] w fun e w' => ∃ m x, I64 m ∧ I64 x ∧ e = .returned (.agg (cF m x)) ∧ Cur w' A ∧ Kp A w w' := by
  have hlA := hc.lt
  have HC0 := Lib.hid (hc.below (below1 w (.cells (cF 0 0) 109)) hlA)
  have HK0 := Lib.hid (Kp.alloc (w := w) (Nat.le_of_lt hlA) (.cells (cF 0 0) 109))
  have HI0 := Lib.hid (Is.new w (cF 0 0) 109)
  clear hc
  go_enter Tryz.func195, Tryz.ntmps195
  go_wp2_with fail
  refine (spec_l1Below A 32767 _ HC0.out ⟨by decide, by decide⟩).mono ?_
  rintro e w2 ⟨x, rfl, hx, hx2, hc2, hk2⟩
  have HC2 := Lib.hid hc2; have HI2 := Lib.hid (hk2.is HI0.out (by omega)); have HK2 := Lib.hid (HK0.out.trans hk2); clear hc2 hk2 HI0 HK0 HC0
  go_wp2_with fail
  refine (spec_l1IntL A [0, 1, 3, 5, 255, 32767, 65535, 1 + 2 * x] _ w2 HC2.out ?_ (by simp) (by simp)).mono ?_
  · intro y hy
    simp only [List.mem_cons, List.not_mem_nil, or_false] at hy
    rcases hy with rfl | rfl | rfl | rfl | rfl | rfl | rfl | rfl <;> exact ⟨by omega, by omega⟩
  rintro e w3 ⟨m, _, hm, rfl, hc3, hk3⟩
  have HC3 := Lib.hid hc3; have HI3 := Lib.hid (hk3.is HI2.out (by omega)); have HK3 := Lib.hid (HK2.out.trans hk3); clear hc3 hk3 HI2 HK2 HC2
  go_wp2_with fail
  refine (spec_l1Below A 47 _ HC3.out ⟨by decide, by decide⟩).mono ?_
  rintro e w4 ⟨y, rfl, hy, hy2, hc4, hk4⟩
  have HC4 := Lib.hid hc4; have HI4 := Lib.hid (hk4.is HI3.out (by omega)); have HK4 := Lib.hid (HK3.out.trans hk4); clear hc4 hk4 HI3 HK3 HC3
  go_wp2_with fail
  refine (spec_l1IntL A [0, 0, 1, -1, -16, 30, y - 16] _ w4 HC4.out ?_ (by simp) (by simp)).mono ?_
  · intro z hz
    simp only [List.mem_cons, List.not_mem_nil, or_false] at hz
    rcases hz with rfl | rfl | rfl | rfl | rfl | rfl | rfl <;> exact ⟨by omega, by omega⟩
  rintro e w5 ⟨ex, _, hex, rfl, hc5, hk5⟩
  have HC5 := Lib.hid hc5; have HI5 := Lib.hid (hk5.is HI4.out (by omega)); have HK5 := Lib.hid (HK4.out.trans hk5); clear hc5 hk5 HI4 HK4 HC4
  obtain ⟨hm0, hm1⟩ := hm
  obtain ⟨hex0, hex1⟩ := hex
  by_cases m0 : m = 0
  · have m0b : (m == 0) = true := by simp [m0]
    have m1b : (m == 1) = false := by simp [m0]
    clear m0
    go_wp2_with fail
    refine (spec_l1Once A 3 w5 HC5.out ⟨by decide, by decide⟩).mono ?_
    rintro e w9 ⟨bn, rfl, hc9, hk9⟩
    have HC9 := Lib.hid hc9; have HI9 := Lib.hid (hk9.is HI5.out (by omega)); have HK9 := Lib.hid (HK5.out.trans hk9); clear hc9 hk9
    cases bn with
    | true =>
      have ff := fun i => HI9.out.frozen i; have lg := HI9.out.lt; obtain ⟨z0, z1⟩ := HI9.out.cells2
      go_wp2_with fail
      obtain ⟨e0, e1, hcf, hkf⟩ := fin2 (.int .i64 (wrap64 (-m))) (.int .i64 (0 : Int)) HI9.out HK9.out (Nat.le_refl _) HC9.out hlA
      refine bodyPost_ret (v := .agg #[.int .i64 (wrap64 (-m)), .int .i64 (0 : Int)]) (by simp [results, Tryz.results195, go_sem, e0, e1]) rfl ⟨_, _, wrap_i64 _, ⟨by decide, by decide⟩, rfl, hcf, hkf⟩
    | false =>
      have ff := fun i => HI9.out.frozen i; have lg := HI9.out.lt; obtain ⟨z0, z1⟩ := HI9.out.cells2
      go_wp2_with fail
      obtain ⟨e0, e1, hcf, hkf⟩ := fin2 (.int .i64 (m)) (.int .i64 (0 : Int)) HI9.out HK9.out (Nat.le_refl _) HC9.out hlA
      refine bodyPost_ret (v := .agg #[.int .i64 (m), .int .i64 (0 : Int)]) (by simp [results, Tryz.results195, go_sem, e0, e1]) rfl ⟨_, _, ⟨hm0, hm1⟩, ⟨by decide, by decide⟩, rfl, hcf, hkf⟩
  · have m0b : (m == 0) = false := by simp [m0]
    clear m0
    by_cases m1 : m = 1
    · have m1b : (m == 1) = true := by simp [m1]
      clear m1
      go_wp2_with fail
      refine (spec_l1Once A 2 w5 HC5.out ⟨by decide, by decide⟩).mono ?_
      rintro e w6 ⟨b6, rfl, hc6, hk6⟩
      have HC6 := Lib.hid hc6; have HI6 := Lib.hid (hk6.is HI5.out (by omega)); have HK6 := Lib.hid (HK5.out.trans hk6); clear hc6 hk6
      cases b6 with
      | true =>
        go_wp2_with fail
        refine (spec_l1IntL A [31, 45] _ w6 HC6.out (by decide) (by decide) (by decide)).mono ?_
        rintro e w7 ⟨x7, _, hx7, rfl, hc7, hk7⟩
        have HC7 := Lib.hid hc7; have HI7 := Lib.hid (hk7.is HI6.out (by omega)); have HK7 := Lib.hid (HK6.out.trans hk7); clear hc7 hk7
        obtain ⟨hx70, hx71⟩ := hx7
        go_wp2_with fail
        refine (spec_l1Once A 3 w7 HC7.out ⟨by decide, by decide⟩).mono ?_
        rintro e w9 ⟨bn, rfl, hc9, hk9⟩
        have HC9 := Lib.hid hc9; have HI9 := Lib.hid (hk9.is HI7.out (by omega)); have HK9 := Lib.hid (HK7.out.trans hk9); clear hc9 hk9
        cases bn with
        | true =>
          have ff := fun i => HI9.out.frozen i; have lg := HI9.out.lt; obtain ⟨z0, z1⟩ := HI9.out.cells2
          go_wp2_with fail
          obtain ⟨e0, e1, hcf, hkf⟩ := fin2 (.int .i64 (wrap64 (-m))) (.int .i64 x7) HI9.out HK9.out (Nat.le_refl _) HC9.out hlA
          refine bodyPost_ret (v := .agg #[.int .i64 (wrap64 (-m)), .int .i64 x7]) (by simp [results, Tryz.results195, go_sem, e0, e1]) rfl ⟨_, _, wrap_i64 _, ⟨hx70, hx71⟩, rfl, hcf, hkf⟩
        | false =>
          have ff := fun i => HI9.out.frozen i; have lg := HI9.out.lt; obtain ⟨z0, z1⟩ := HI9.out.cells2
          go_wp2_with fail
          obtain ⟨e0, e1, hcf, hkf⟩ := fin2 (.int .i64 (m)) (.int .i64 x7) HI9.out HK9.out (Nat.le_refl _) HC9.out hlA
          refine bodyPost_ret (v := .agg #[.int .i64 (m), .int .i64 x7]) (by simp [results, Tryz.results195, go_sem, e0, e1]) rfl ⟨_, _, ⟨hm0, hm1⟩, ⟨hx70, hx71⟩, rfl, hcf, hkf⟩
      | false =>
        go_wp2_with fail
        refine (spec_l1Once A 3 w6 HC6.out ⟨by decide, by decide⟩).mono ?_
        rintro e w9 ⟨bn, rfl, hc9, hk9⟩
        have HC9 := Lib.hid hc9; have HI9 := Lib.hid (hk9.is HI6.out (by omega)); have HK9 := Lib.hid (HK6.out.trans hk9); clear hc9 hk9
        cases bn with
        | true =>
          have ff := fun i => HI9.out.frozen i; have lg := HI9.out.lt; obtain ⟨z0, z1⟩ := HI9.out.cells2
          go_wp2_with fail
          obtain ⟨e0, e1, hcf, hkf⟩ := fin2 (.int .i64 (wrap64 (-m))) (.int .i64 ex) HI9.out HK9.out (Nat.le_refl _) HC9.out hlA
          refine bodyPost_ret (v := .agg #[.int .i64 (wrap64 (-m)), .int .i64 ex]) (by simp [results, Tryz.results195, go_sem, e0, e1]) rfl ⟨_, _, wrap_i64 _, ⟨hex0, hex1⟩, rfl, hcf, hkf⟩
        | false =>
          have ff := fun i => HI9.out.frozen i; have lg := HI9.out.lt; obtain ⟨z0, z1⟩ := HI9.out.cells2
          go_wp2_with fail
          obtain ⟨e0, e1, hcf, hkf⟩ := fin2 (.int .i64 (m)) (.int .i64 ex) HI9.out HK9.out (Nat.le_refl _) HC9.out hlA
          refine bodyPost_ret (v := .agg #[.int .i64 (m), .int .i64 ex]) (by simp [results, Tryz.results195, go_sem, e0, e1]) rfl ⟨_, _, ⟨hm0, hm1⟩, ⟨hex0, hex1⟩, rfl, hcf, hkf⟩
    · have m1b : (m == 1) = false := by simp [m1]
      clear m1
      go_wp2_with fail
      refine (spec_l1Once A 3 w5 HC5.out ⟨by decide, by decide⟩).mono ?_
      rintro e w9 ⟨bn, rfl, hc9, hk9⟩
      have HC9 := Lib.hid hc9; have HI9 := Lib.hid (hk9.is HI5.out (by omega)); have HK9 := Lib.hid (HK5.out.trans hk9); clear hc9 hk9
      cases bn with
      | true =>
        have ff := fun i => HI9.out.frozen i; have lg := HI9.out.lt; obtain ⟨z0, z1⟩ := HI9.out.cells2
        go_wp2_with fail
        obtain ⟨e0, e1, hcf, hkf⟩ := fin2 (.int .i64 (wrap64 (-m))) (.int .i64 ex) HI9.out HK9.out (Nat.le_refl _) HC9.out hlA
        refine bodyPost_ret (v := .agg #[.int .i64 (wrap64 (-m)), .int .i64 ex]) (by simp [results, Tryz.results195, go_sem, e0, e1]) rfl ⟨_, _, wrap_i64 _, ⟨hex0, hex1⟩, rfl, hcf, hkf⟩
      | false =>
        have ff := fun i => HI9.out.frozen i; have lg := HI9.out.lt; obtain ⟨z0, z1⟩ := HI9.out.cells2
        go_wp2_with fail
        obtain ⟨e0, e1, hcf, hkf⟩ := fin2 (.int .i64 (m)) (.int .i64 ex) HI9.out HK9.out (Nat.le_refl _) HC9.out hlA
        refine bodyPost_ret (v := .agg #[.int .i64 (m), .int .i64 ex]) (by simp [results, Tryz.results195, go_sem, e0, e1]) rfl ⟨_, _, ⟨hm0, hm1⟩, ⟨hex0, hex1⟩, rfl, hcf, hkf⟩
end Go.Proofs.YtfbodhfdomdkpaaGreatDoor
namespace Go.Proofs.YtfbodhfdomdkpaaGreatDoor
open Go.ChangeShapes Go.WideShapes Go.ChangeAt Go.RowKit Go.Joins
set_option linter.unusedVariables false
set_option maxRecDepth 100000
set_option maxHeartbeats 2000000 in
theorem impl_FltOk (m x : Int) (w : World) (hm : I64 m) (hx : I64 x) :
    Calls Tryz.prog 167 #[.agg (cF m x)] w fun e w' => e = .returned (.bool (decide (fltOk m x))) ∧ Below w.heap.size w w' := by
  obtain ⟨hm0, hm1⟩ := hm
  obtain ⟨hx0, hx1⟩ := hx
  have hl : w.heap.size < (w.alloc (.cells (cF m x) 109)).heap.size := by simp
  have H0 := Lib.hid (below1 w (.cells (cF m x) 109))
  have q0 := Is.new w (cF m x) 109
  by_cases h0 : m = 0
  · subst h0
    by_cases h1 : x = 0
    · subst h1
      have HD := Lib.hid (show decide (fltOk 0 0) = true from decide_eq_true (Or.inl ⟨rfl, rfl⟩))
      go_enter Tryz.func167, Tryz.ntmps167
      go_wp2_with fail
      go_ret
      exact ⟨ret_b (by rw [HD.out]), H0.out⟩
    · have HD := Lib.hid (show decide (fltOk 0 x) = false from decide_eq_false (by rintro (h | h); exact h1 h.2; exact h.1 rfl))
      go_enter Tryz.func167, Tryz.ntmps167
      go_wp2_with fail
      go_ret
      exact ⟨ret_b (by rw [HD.out]; simp [h1]), H0.out⟩
  by_cases h1 : m.tmod 2 = 0
  · have HD := Lib.hid (show decide (fltOk m x) = false from decide_eq_false (by rintro (h | h); exact h0 h.1; exact h.2.2.1 h1))
    go_enter Tryz.func167, Tryz.ntmps167
    go_wp2_with fail
    go_ret
    exact ⟨ret_b (by rw [HD.out]), H0.out⟩
  by_cases h2 : -65535 ≤ m ∧ m ≤ 65535
  · have D2 := Lib.hid (show decide ((-65535 : Int) ≤ m ∧ m ≤ 65535) = true from decide_eq_true h2)
    by_cases h3 : x < -16
    · have HD := Lib.hid (show decide (fltOk m x) = false from decide_eq_false (by rintro (h | h); exact h0 h.1; have := h.2.2.2.1; omega))
      go_enter Tryz.func167, Tryz.ntmps167
      go_wp2_with (go_at_call 140; refine (impl_within _ _ _ _).mono ?_; rintro e w2 ⟨rfl, hb⟩; rw [D2.out]; have HB2 := Lib.hid (below_step H0.out hb (by simp)); have q2 := q0.below hb hl; obtain ⟨r0, r1⟩ := q2.cells2; have hl2 : w.heap.size < w2.heap.size := Nat.lt_of_lt_of_le hl hb.size; clear hb)
      go_ret
      exact ⟨ret_b (by rw [HD.out]), HB2.out⟩
    have h3' : -16 ≤ x := by omega
    have h3d : decide (x < -16) = false := decide_eq_false h3
    by_cases h4 : x ≤ 30
    · have HD := Lib.hid (show decide (fltOk m x) = true from decide_eq_true (Or.inr ⟨h0, h2, h1, by omega, Or.inl h4⟩))
      go_enter Tryz.func167, Tryz.ntmps167
      go_wp2_with (go_at_call 140; refine (impl_within _ _ _ _).mono ?_; rintro e w2 ⟨rfl, hb⟩; rw [D2.out]; have HB2 := Lib.hid (below_step H0.out hb (by simp)); have q2 := q0.below hb hl; obtain ⟨r0, r1⟩ := q2.cells2; have hl2 : w.heap.size < w2.heap.size := Nat.lt_of_lt_of_le hl hb.size; clear hb)
      go_ret
      exact ⟨ret_b (by rw [HD.out]), HB2.out⟩
    by_cases h5 : x ≤ 46
    · obtain ⟨bb, hbb⟩ : ∃ bb, decide (-65535 ≤ m * 2 ^ (x - 30).toNat ∧ m * 2 ^ (x - 30).toNat ≤ 65535) = bb := ⟨_, rfl⟩
      have HD := Lib.hid ((fltOk_big (m := m) (e := x) (x - 30).toNat (by omega) (by omega) h0 h2 h1).trans hbb)
      obtain rfl | rfl | rfl | rfl | rfl | rfl | rfl | rfl | rfl | rfl | rfl | rfl | rfl | rfl | rfl | rfl : x = 31 ∨ x = 32 ∨ x = 33 ∨ x = 34 ∨ x = 35 ∨ x = 36 ∨ x = 37 ∨ x = 38 ∨ x = 39 ∨ x = 40 ∨ x = 41 ∨ x = 42 ∨ x = 43 ∨ x = 44 ∨ x = 45 ∨ x = 46 := by omega
      all_goals
        simp only [Int.reduceSub, Int.reduceToNat, Int.reducePow] at hbb
        have HBB := Lib.hid hbb; clear hbb
        go_enter Tryz.func167, Tryz.ntmps167
        go_wp2_with (go_at_call 140; refine (impl_within _ _ _ _).mono ?_; rintro e w2 ⟨rfl, hb⟩; first | (rw [D2.out]; have HB2 := Lib.hid (below_step H0.out hb (by simp)); have q2 := q0.below hb hl; obtain ⟨r0, r1⟩ := q2.cells2; have hl2 : w.heap.size < w2.heap.size := Nat.lt_of_lt_of_le hl hb.size; clear hb) | (rw [HBB.out]; have HB3 := Lib.hid (below_step HB2.out hb HB2.out.size)))
        go_ret
        exact ⟨ret_b (by rw [HD.out]), HB3.out⟩
    · have HD := Lib.hid (show decide (fltOk m x) = false from decide_eq_false (by rintro (h | h); exact h0 h.1; have := h.2.2.2.2; omega))
      go_enter Tryz.func167, Tryz.ntmps167
      go_wp2_with (go_at_call 140; refine (impl_within _ _ _ _).mono ?_; rintro e w2 ⟨rfl, hb⟩; rw [D2.out]; have HB2 := Lib.hid (below_step H0.out hb (by simp)); have q2 := q0.below hb hl; obtain ⟨r0, r1⟩ := q2.cells2; have hl2 : w.heap.size < w2.heap.size := Nat.lt_of_lt_of_le hl hb.size; clear hb)
      go_ret
      exact ⟨ret_b (by rw [HD.out]), HB2.out⟩
  · have D2 := Lib.hid (show decide ((-65535 : Int) ≤ m ∧ m ≤ 65535) = false from decide_eq_false h2)
    have HD := Lib.hid (show decide (fltOk m x) = false from decide_eq_false (by rintro (h | h); exact h0 h.1; exact h2 h.2.1))
    go_enter Tryz.func167, Tryz.ntmps167
    go_wp2_with (go_at_call 140; refine (impl_within _ _ _ _).mono ?_; rintro e w2 ⟨rfl, hb⟩; rw [D2.out]; have HB2 := Lib.hid (below_step H0.out hb (by simp)); clear hb)
    go_ret
    exact ⟨ret_b (by rw [HD.out]), HB2.out⟩
set_option maxHeartbeats 2000000 in
theorem spec_FltOk (m x : Int) (w : World) (hm : I64 m) (hx : I64 x) :
    Calls Tryz.prog 155 #[.agg (cF m x)] w fun e w' => e = .returned (.bool (decide (fltOk m x))) ∧ Below w.heap.size w w' := by
  obtain ⟨hm0, hm1⟩ := hm
  obtain ⟨hx0, hx1⟩ := hx
  have hl : w.heap.size < (w.alloc (.cells (cF m x) 109)).heap.size := by simp
  have H0 := Lib.hid (below1 w (.cells (cF m x) 109))
  have q0 := Is.new w (cF m x) 109
  by_cases h0 : m = 0
  · subst h0
    by_cases h1 : x = 0
    · subst h1
      have HD := Lib.hid (show decide (fltOk 0 0) = true from decide_eq_true (Or.inl ⟨rfl, rfl⟩))
      go_enter Tryz.func155, Tryz.ntmps155
      go_wp2_with fail
      go_ret
      exact ⟨ret_b (by rw [HD.out]), H0.out⟩
    · have HD := Lib.hid (show decide (fltOk 0 x) = false from decide_eq_false (by rintro (h | h); exact h1 h.2; exact h.1 rfl))
      go_enter Tryz.func155, Tryz.ntmps155
      go_wp2_with fail
      go_ret
      exact ⟨ret_b (by rw [HD.out]; simp [h1]), H0.out⟩
  by_cases h2 : -65535 ≤ m ∧ m ≤ 65535
  · have D2 := Lib.hid (show decide ((-65535 : Int) ≤ m ∧ m ≤ 65535) = true from decide_eq_true h2)
    by_cases h1 : m.tmod 2 = 0
    · have HD := Lib.hid (show decide (fltOk m x) = false from decide_eq_false (by rintro (h | h); exact h0 h.1; exact h.2.2.1 h1))
      go_enter Tryz.func155, Tryz.ntmps155
      go_wp2_with (go_at_call 88; refine (spec_l1In _ _ _ _).mono ?_; rintro e w2 ⟨rfl, hb⟩; first | (rw [D2.out]; have HB2 := Lib.hid (below_step H0.out hb (by simp)); have q2 := q0.below hb hl; obtain ⟨r0, r1⟩ := q2.cells2; have hl2 : w.heap.size < w2.heap.size := Nat.lt_of_lt_of_le hl hb.size; clear hb) | (rw [D3.out]; have HB3 := Lib.hid (below_step HB2.out hb HB2.out.size); have q3 := q2.below hb hl2; obtain ⟨s0, s1⟩ := q3.cells2; have hl3 : w.heap.size < w2.heap.size := Nat.lt_of_lt_of_le hl2 hb.size; clear hb) | (rw [HBB.out]; have HB4 := Lib.hid (below_step HB3.out hb HB3.out.size)))
      go_ret
      exact ⟨ret_b (by rw [HD.out]), HB2.out⟩
    by_cases h3 : -16 ≤ x ∧ x ≤ 45
    · have D3 := Lib.hid (show decide ((-16 : Int) ≤ x ∧ x ≤ 45) = true from decide_eq_true h3)
      by_cases h4 : x ≤ 30
      · have HD := Lib.hid (show decide (fltOk m x) = true from decide_eq_true (Or.inr ⟨h0, h2, h1, by omega, Or.inl h4⟩))
        go_enter Tryz.func155, Tryz.ntmps155
        go_wp2_with (go_at_call 88; refine (spec_l1In _ _ _ _).mono ?_; rintro e w2 ⟨rfl, hb⟩; first | (rw [D2.out]; have HB2 := Lib.hid (below_step H0.out hb (by simp)); have q2 := q0.below hb hl; obtain ⟨r0, r1⟩ := q2.cells2; have hl2 : w.heap.size < w2.heap.size := Nat.lt_of_lt_of_le hl hb.size; clear hb) | (rw [D3.out]; have HB3 := Lib.hid (below_step HB2.out hb HB2.out.size); have q3 := q2.below hb hl2; obtain ⟨s0, s1⟩ := q3.cells2; have hl3 : w.heap.size < w2.heap.size := Nat.lt_of_lt_of_le hl2 hb.size; clear hb) | (rw [HBB.out]; have HB4 := Lib.hid (below_step HB3.out hb HB3.out.size)))
        go_ret
        exact ⟨ret_b (by rw [HD.out]), HB3.out⟩
      · obtain ⟨bb, hbb⟩ : ∃ bb, decide (-65535 ≤ m * 2 ^ (x - 30).toNat ∧ m * 2 ^ (x - 30).toNat ≤ 65535) = bb := ⟨_, rfl⟩
        have HD := Lib.hid ((fltOk_big (m := m) (e := x) (x - 30).toNat (by omega) (by omega) h0 h2 h1).trans hbb)
        obtain rfl | rfl | rfl | rfl | rfl | rfl | rfl | rfl | rfl | rfl | rfl | rfl | rfl | rfl | rfl : x = 31 ∨ x = 32 ∨ x = 33 ∨ x = 34 ∨ x = 35 ∨ x = 36 ∨ x = 37 ∨ x = 38 ∨ x = 39 ∨ x = 40 ∨ x = 41 ∨ x = 42 ∨ x = 43 ∨ x = 44 ∨ x = 45 := by omega
        all_goals
          simp only [Int.reduceSub, Int.reduceToNat, Int.reducePow] at hbb
          have HBB := Lib.hid hbb; clear hbb
          go_enter Tryz.func155, Tryz.ntmps155
          go_wp2_with (go_at_call 88; refine (spec_l1In _ _ _ _).mono ?_; rintro e w2 ⟨rfl, hb⟩; first | (rw [D2.out]; have HB2 := Lib.hid (below_step H0.out hb (by simp)); have q2 := q0.below hb hl; obtain ⟨r0, r1⟩ := q2.cells2; have hl2 : w.heap.size < w2.heap.size := Nat.lt_of_lt_of_le hl hb.size; clear hb) | (rw [D3.out]; have HB3 := Lib.hid (below_step HB2.out hb HB2.out.size); have q3 := q2.below hb hl2; obtain ⟨s0, s1⟩ := q3.cells2; have hl3 : w.heap.size < w2.heap.size := Nat.lt_of_lt_of_le hl2 hb.size; clear hb) | (rw [HBB.out]; have HB4 := Lib.hid (below_step HB3.out hb HB3.out.size)))
          go_ret
          exact ⟨ret_b (by rw [HD.out]), HB4.out⟩
    · have D3 := Lib.hid (show decide ((-16 : Int) ≤ x ∧ x ≤ 45) = false from decide_eq_false h3)
      have HD := Lib.hid (show decide (fltOk m x) = false from decide_eq_false (by
        rintro (h | h); exact h0 h.1
        have e46 := h.2.2.2.2
        by_cases h46 : x = 46
        · subst h46
          rcases e46 with h | h
          · omega
          · simp only [Int.reduceSub, Int.reduceToNat, Int.reducePow] at h; omega
        · omega))
      go_enter Tryz.func155, Tryz.ntmps155
      go_wp2_with (go_at_call 88; refine (spec_l1In _ _ _ _).mono ?_; rintro e w2 ⟨rfl, hb⟩; first | (rw [D2.out]; have HB2 := Lib.hid (below_step H0.out hb (by simp)); have q2 := q0.below hb hl; obtain ⟨r0, r1⟩ := q2.cells2; have hl2 : w.heap.size < w2.heap.size := Nat.lt_of_lt_of_le hl hb.size; clear hb) | (rw [D3.out]; have HB3 := Lib.hid (below_step HB2.out hb HB2.out.size); have q3 := q2.below hb hl2; obtain ⟨s0, s1⟩ := q3.cells2; have hl3 : w.heap.size < w2.heap.size := Nat.lt_of_lt_of_le hl2 hb.size; clear hb) | (rw [HBB.out]; have HB4 := Lib.hid (below_step HB3.out hb HB3.out.size)))
      go_ret
      exact ⟨ret_b (by rw [HD.out]), HB3.out⟩
  · have D2 := Lib.hid (show decide ((-65535 : Int) ≤ m ∧ m ≤ 65535) = false from decide_eq_false h2)
    have HD := Lib.hid (show decide (fltOk m x) = false from decide_eq_false (by rintro (h | h); exact h0 h.1; exact h2 h.2.1))
    go_enter Tryz.func155, Tryz.ntmps155
    go_wp2_with (go_at_call 88; refine (spec_l1In _ _ _ _).mono ?_; rintro e w2 ⟨rfl, hb⟩; first | (rw [D2.out]; have HB2 := Lib.hid (below_step H0.out hb (by simp)); have q2 := q0.below hb hl; obtain ⟨r0, r1⟩ := q2.cells2; have hl2 : w.heap.size < w2.heap.size := Nat.lt_of_lt_of_le hl hb.size; clear hb) | (rw [D3.out]; have HB3 := Lib.hid (below_step HB2.out hb HB2.out.size); have q3 := q2.below hb hl2; obtain ⟨s0, s1⟩ := q3.cells2; have hl3 : w.heap.size < w2.heap.size := Nat.lt_of_lt_of_le hl2 hb.size; clear hb) | (rw [HBB.out]; have HB4 := Lib.hid (below_step HB3.out hb HB3.out.size)))
    go_ret
    exact ⟨ret_b (by rw [HD.out]), HB2.out⟩
end Go.Proofs.YtfbodhfdomdkpaaGreatDoor
namespace Go.Proofs.YtfbodhfdomdkpaaGreatDoor
open Go.ChangeShapes Go.WideShapes Go.ChangeAt Go.RowKit Go.Joins
set_option linter.unusedVariables false
set_option maxRecDepth 100000
theorem pow_mono {b j k : Nat} (hb : 1 ≤ b) (h : j ≤ k) : b ^ j ≤ b ^ k := Nat.pow_le_pow_right hb h
theorem pow_step {b j k : Nat} (hb : 1 ≤ b) (h : j < k) (hk : b ^ k ≤ 9223372036854775807) : (b ^ j : Nat) * b ≤ 9223372036854775807 := by
  rw [← Nat.pow_succ]; exact Nat.le_trans (pow_mono hb h) hk
theorem pow_int (b j : Nat) : (((b ^ j : Nat) : Int) * (b : Int)) = ((b ^ (j + 1) : Nat) : Int) := by
  rw [Nat.pow_succ]; exact (Int.natCast_mul _ _).symm
theorem impl_power (b k : Nat) (w : World) (hb : 1 ≤ b) (hb2 : b ≤ 100) (hk2 : k ≤ 100) (hk : b ^ k ≤ 9223372036854775807) :
    Calls Tryz.prog 271 #[.int .i64 b, .int .i64 k] w fun e w' => e = .returned (.int .i64 (b ^ k : Nat)) ∧ Below w.heap.size w w' := by
  go_enter Tryz.func271, Tryz.ntmps271
  go_wp2_with fail
  go_loopw [5, 7] (fun o i wr => ∃ (j p : Nat), j ≤ k ∧ i = .int .i64 j ∧ o = .int .i64 p ∧ Hid (p = b ^ j) ∧ Below w.heap.size w wr) (fun _ i _ => k - (intOf i).toNat)
  case atStart => exact ⟨0, 1, Nat.zero_le _, rfl, rfl, (Nat.pow_zero _).symm, Below.refl _ _⟩
  case round =>
    obtain ⟨j, p, hj, rfl, rfl, HP, hb'⟩ := hrel
    by_cases hlt : j < k
    · have h1 := pow_step hb hlt hk
      rw [← HP.out] at h1
      have h2 : (p : Int) * (b : Int) ≤ 9223372036854775807 := by rw [← Int.natCast_mul]; omega
      have h3 : (0 : Int) ≤ (p : Int) * (b : Int) := by rw [← Int.natCast_mul]; omega
      have HE := Lib.hid (show (p : Int) * (b : Int) = ((p * b : Nat) : Int) from (Int.natCast_mul p b).symm)
      have HQ := Lib.hid (show p * b = b ^ (j + 1) from by rw [Nat.pow_succ, HP.out])
      clear h1
      go_wp2_with fail
      go_roundw
      case rel => exact ⟨j + 1, p * b, by omega, by go_num, by first | go_num | (rw [HE.out]), HQ.out, hb'⟩
      case measure => simp [intOf]; omega
    · have HE := Lib.hid (show p = b ^ k from by rw [HP.out, show j = k from by omega])
      go_wp2_with fail
      go_ret
      exact ⟨by rw [← HE.out]; rfl, hb'⟩
theorem spec_Pow (b k : Nat) (w : World) (hb : b = 2 ∨ b = 5 ∨ b = 10) (hk2 : k ≤ 17) :
    Calls Tryz.prog 274 #[.int .i64 b, .int .i64 k] w fun e w' => e = .returned (.int .i64 (b ^ k : Nat)) ∧ Below w.heap.size w w' := by
  have hb1 : 1 ≤ b := by omega
  have hk : b ^ k ≤ 9223372036854775807 := by
    have h1 : b ^ k ≤ 10 ^ k := Nat.pow_le_pow_left (by omega) k
    have h2 : 10 ^ k ≤ 10 ^ 17 := Nat.pow_le_pow_right (by omega) hk2
    have h3 : (10 : Nat) ^ 17 = 100000000000000000 := by decide
    omega
  have HD := Lib.hid (show decide ((0 : Int) ≤ (k : Int) ∧ (k : Int) ≤ 17) = true from decide_eq_true ⟨by omega, by omega⟩)
  have HKK := Lib.hid hk; clear hk
  obtain ⟨P, hP⟩ : ∃ P, b ^ k = P := ⟨_, rfl⟩
  have HPP := Lib.hid hP; rw [hP]; clear hP
  obtain rfl | rfl | rfl := hb
  all_goals
    go_enter Tryz.func274, Tryz.ntmps274
    go_wp2_with (go_at_call 88; refine (spec_l1In _ _ _ _).mono ?_; rintro e w2 ⟨rfl, hb2⟩; rw [HD.out]; have HB2 := Lib.hid hb2)
    go_loopw [5, 6] (fun o i wr => ∃ (j p : Nat), j ≤ k ∧ i = .int .i64 j ∧ o = .int .i64 p ∧ Hid (p = _ ^ j) ∧ Below w.heap.size w wr) (fun _ i _ => k - (intOf i).toNat)
    case atStart => exact ⟨0, 1, Nat.zero_le _, rfl, rfl, by show _ = _; exact (Nat.pow_zero _).symm, HB2.out⟩
    case round =>
      obtain ⟨j, p, hj, rfl, rfl, HP, hb'⟩ := hrel
      by_cases hlt : j < k
      · have h1 := pow_step hb1 hlt HKK.out
        rw [← HP.out] at h1
        have HQ := Lib.hid (show p * _ = _ ^ (j + 1) from by rw [Nat.pow_succ, ← HP.out])
        go_wp2_with fail
        go_roundw
        case rel => exact ⟨j + 1, _, by omega, by go_num, by go_num, HQ.out, hb'⟩
        case measure => simp [intOf]; omega
      · have HE := Lib.hid (show p = P from by rw [HP.out, ← HPP.out, show j = k from by omega])
        go_wp2_with fail
        go_ret
        exact ⟨by rw [← HE.out]; rfl, hb'⟩
theorem spec_Pow5 (k : Nat) (kk : Int) (w : World) (h : kk = k) (hk2 : k ≤ 16) :
    Calls Tryz.prog 274 #[.int .i64 5, .int .i64 kk] w fun e w' => e = .returned (.int .i64 (5 ^ k : Nat)) ∧ Below w.heap.size w w' := by
  subst h; exact spec_Pow 5 k w (by omega) (by omega)
theorem impl_power5 (k : Nat) (kk : Int) (w : World) (h : kk = k) (hk2 : k ≤ 16) :
    Calls Tryz.prog 271 #[.int .i64 5, .int .i64 kk] w fun e w' => e = .returned (.int .i64 (5 ^ k : Nat)) ∧ Below w.heap.size w w' := by
  subst h; exact impl_power 5 k w (by omega) (by omega) (by omega) (by
    have h1 : 5 ^ k ≤ 5 ^ 16 := Nat.pow_le_pow_right (by omega) hk2
    have h2 : (5 : Nat) ^ 16 = 152587890625 := by decide
    omega)
end Go.Proofs.YtfbodhfdomdkpaaGreatDoor
