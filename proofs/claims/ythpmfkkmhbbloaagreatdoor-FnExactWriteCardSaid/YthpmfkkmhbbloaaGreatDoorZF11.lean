/- Texts of this proof, merged: Big2, Big3. No condition beyond what each theorem states. -/
import Derived.Test.YthpmfkkmhbbloaaGreatDoorRows
import Derived.WalkKit
import Derived.ProofKit
import Derived.OpenShut
import Derived.Handy
import Derived.Lib.Hide
import Derived.Lib.SmallJoins
import Derived.Deep.RegionHeld3
import Derived.Deep.QuietTactic
import Derived.BigQuiet
import Derived.Laws.Bits64
import Derived.Laws.Bits64b
import Derived.Deep.CutBlock
import Derived.Deep.DeepCutAuto
import Derived.Test.YthpmfkkmhbbloaaGreatDoorZF1
import Derived.Test.YthpmfkkmhbbloaaGreatDoorZF2
import Derived.Test.YthpmfkkmhbbloaaGreatDoorZF3
import Derived.Test.YthpmfkkmhbbloaaGreatDoorZF7
import Derived.Test.YthpmfkkmhbbloaaGreatDoorZF9
import Derived.Test.YthpmfkkmhbbloaaGreatDoorZF10
import Derived.Test.YthpmfkkmhbbloaaGreatDoorZF4
import Derived.Test.YthpmfkkmhbbloaaGreatDoorZF5
set_option linter.unusedSimpArgs false
set_option linter.unnecessarySimpa false
namespace Go.Proofs.YthpmfkkmhbbloaaGreatDoor
open Go.ChangeShapes Go.WideShapes Go.ChangeAt Go.RowKit Go.Joins
set_option linter.unusedVariables false
set_option maxRecDepth 100000
theorem and255 (x : Int) (h0 : 0 ≤ x) (h1 : x ≤ 9223372036854775807) : bits .and .i64 x 255 = x % 256 := by
  obtain ⟨u, rfl⟩ := Int.eq_ofNat_of_zero_le h0
  have h2 : (BitVec.ofInt 64 (u : Int)).toNat = u := by
    rw [BitVec.ofInt_natCast, BitVec.toNat_ofNat]; exact Nat.mod_eq_of_lt (by omega)
  show IntKind.i64.wrap ((BitVec.ofInt 64 (u : Int) &&& BitVec.ofInt 64 255).toNat : Int) = _
  rw [BitVec.toNat_and, h2, show (BitVec.ofInt 64 255).toNat = 255 from by decide, Nat.and_two_pow_sub_one_eq_mod u 8, Go.IntWalk.i64_left]
  rw [Go.IntWalk.wrap64_in _ ⟨by omega, by omega⟩]
  omega
theorem u8_mod (x : Int) : IntKind.u8.wrap (x % 256) = x % 256 := by
  rw [IntKind.wrap_u8]; omega
theorem fitW_w {n k : Int} (h : fitW n k) : k = 1 ∨ k = 2 ∨ k = 4 ∨ k = 8 := by obtain ⟨_, h⟩ := h; omega
/-- A copy of bytes, by append to an empty row. -/
theorem copyB (w : World) (b : List Int) (a : Option Addr) (cap B : Nat) (hr : Rd EByte 1 w B a cap b) (hB : B ≤ w.heap.size) (hz : b.length ≤ 1099511627776) :
    ∃ a' cap' w', (Builtin.append_ #[33, 33] 33 #[.slice (some ⟨w.heap.size, 0, none⟩) 0 0, .slice a b.length cap]).run Tryz.prog (w.alloc (.cells #[] 5)) = .ok (.slice a' b.length cap') w' ∧
      AppL EByte 1 5 w' w.heap.size a' cap' b [] ∧ Below w.heap.size w w' := by
  obtain ⟨a', cap', w', hrun, happ, hbel, _, _, _⟩ := run_appL (P := Tryz.prog) (w.alloc (.cells #[] 5)) EByte.elem 33 33 (.int .u8 0) 1 Tryz.underlying33 info_Byte2 rfl w.heap.size (some ⟨w.heap.size, 0, none⟩) 0 [] [] (AppL.empty w w.heap.size (Nat.le_refl _)) (by simp) (by simp) a cap b [] ((hr.below EByte.loc (below1 w _) hB).srcs EByte.flat) (by simp) (by simp [maxLen]; omega) (by simp; omega)
  exact ⟨a', cap', w', hrun, happ, (below1 w _).trans hbel⟩
set_option maxHeartbeats 8000000 in
theorem spec_PutBig (b : List Int) (n k : Int) (a : Option Addr) (cap B : Nat) (w : World) (hr : Rd EByte 1 w B a cap b) (hf : fitW n k) (hn : n ≤ 9223372036854775807) (hz : b.length ≤ 1099511627776) (hB : B ≤ w.heap.size) :
    Calls Tryz.prog 115 #[.slice a b.length cap, .int .i64 n, .int .i64 k] w fun e w' => ∃ a' cap', e = .returned (.slice a' (b ++ bigL n k.toNat).length cap') ∧ AppL EByte 1 5 w' w.heap.size a' cap' (b ++ bigL n k.toNat) [] ∧ Below w.heap.size w w' := by
  obtain ⟨a1, c1, w1, hrun, happ, hb1⟩ := copyB w b a cap B hr hB hz
  obtain ⟨hl1, hl2⟩ := hr.len
  have HA1 := Lib.hid happ
  have HB1 := Lib.hid hb1
  have hk := fitW_w hf
  obtain ⟨hn0, hfk⟩ := hf
  have hs1 := hb1.size
  have hkb : okW k = true := (okW_iff k).2 hk
  have hkl : k.toNat ≤ 8 := by omega
  clear happ hb1 hr
  go_enter Tryz.func115, Tryz.ntmps115
  go_upto_region 2 with (at_builtin; refine Lib.wpList_append_run _ rfl _ _ _ _ rfl _ _ rfl rfl _ _ hrun ?_)
  clear hrun
  go_cut [29] (fun cv wx => cv = .bool false ∧ Hid (Below w1.heap.size w1 wx))
  case first =>
    obtain rfl | rfl | rfl | rfl := hk
    · have hq : n / 256 = 0 := by omega
      go_wp2_with fail
      refine (spec_l3Width 1 _).mono ?_
      rintro e w2 ⟨rfl, hb2⟩
      rw [hkb]
      have K := Lib.hid hb2; clear hb2
      go_wp2_with fail
      go_meet
      case rel => exact ⟨by first | rfl | rw [decide_eq_false (show ¬ n < 0 by omega)], K⟩
    · have hq : n / 65536 = 0 := by omega
      go_wp2_with fail
      refine (spec_l3Width 2 _).mono ?_
      rintro e w2 ⟨rfl, hb2⟩
      rw [hkb]
      have K := Lib.hid hb2; clear hb2
      go_wp2_with fail
      go_meet
      case rel => exact ⟨by first | rfl | rw [decide_eq_false (show ¬ n < 0 by omega)], K⟩
    · have hq : n / 4294967296 = 0 := by omega
      go_wp2_with fail
      refine (spec_l3Width 4 _).mono ?_
      rintro e w2 ⟨rfl, hb2⟩
      rw [hkb]
      have K := Lib.hid hb2; clear hb2
      go_wp2_with fail
      go_meet
      case rel => exact ⟨by first | rfl | rw [decide_eq_false (show ¬ n < 0 by omega)], K⟩
    · go_wp2_with fail
      refine (spec_l3Width 8 _).mono ?_
      rintro e w2 ⟨rfl, hb2⟩
      rw [hkb]
      have K := Lib.hid hb2; clear hb2
      go_wp2_with fail
      go_meet
      case rel => exact ⟨by first | rfl | rw [decide_eq_false (show ¬ n < 0 by omega)], K⟩
  case rest =>
    obtain ⟨rfl, HX⟩ := hcut
    rename World => wx
    have hk1 : -9223372036854775808 ≤ k - 1 ∧ k - 1 ≤ 9223372036854775807 := by omega
    have e1 : (k - 1 : Int) = ((k.toNat : Nat) : Int) - 1 := by omega
    have HE1 := Lib.hid e1
    clear e1 hfk
    go_upto_region 5 with (fail)
    have HX1 := Lib.hid (HA1.out.agree EByte.elem (fun f hf => HX.out.block f hf) hs1)
    have HX2 := Lib.hid (HB1.out.trans (HX.out.mono hs1))
    have hkz : k.toNat ≤ 8 := hkl
    go_loopw [7, 8] (fun q iv wr => ∃ (m : Nat) (out : List Int) (ar : Option Addr) (cr : Nat), m ≤ 8 ∧ iv = .int .i64 ((m : Int) - 1) ∧ q = .slice ar out.length cr ∧ Hid (AppL EByte 1 5 wr w.heap.size ar cr out []) ∧ Hid (out ++ bigL n m = b ++ bigL n k.toNat) ∧ Hid (Below w.heap.size w wr)) (fun _ iv _ => (intOf iv + 1).toNat)
    case atStart => exact ⟨k.toNat, b, a1, c1, hkl, by rw [← HE1.out], rfl, HX1, Lib.hid rfl, HX2⟩
    case round =>
      clear HX1 HX2 HA1 HB1 HX
      obtain ⟨m, out, ar, cr, hm, rfl, rfl, HA, HO, HB⟩ := hrel
      have hbs := HB.out.size
      have hol : out.length ≤ 1099511627784 := by
        have h1 := congrArg List.length HO.out
        rw [List.length_append, List.length_append, bigL_len, bigL_len] at h1; omega
      cases m with
      | zero =>
        have HE : Hid (out = b ++ bigL n k.toNat) := Lib.hid (by have := HO.out; rw [bigL, List.append_nil] at this; exact this)
        have h0 : ((0 : Nat) : Int) - 1 = -1 := rfl
        rw [h0]
        go_wp2_with fail
        go_ret
        exact ⟨ar, cr, by rw [← HE.out]; rfl, by rw [← HE.out]; exact HA.out, HB.out⟩
      | succ m =>
        have HO2 : Hid ((out ++ [n / 256 ^ m % 256]) ++ bigL n m = b ++ bigL n k.toNat) := Lib.hid (by have := HO.out; rw [bigL] at this; rw [List.append_assoc]; exact this)
        have h0 : ((m + 1 : Nat) : Int) - 1 = (m : Int) := by omega
        rw [h0]
        have hU : U8 (n / 256 ^ m % 256) := by unfold U8; omega
        have HN := Lib.hid (HA.out.agree EByte.elem (fun f hf => (below1 wr (.cells #[Value.int IntKind.u8 (n / 256 ^ m % 256)] 5)).block f hf) hbs)
        have hmm : m = 0 ∨ m = 1 ∨ m = 2 ∨ m = 3 ∨ m = 4 ∨ m = 5 ∨ m = 6 ∨ m = 7 := by omega
        clear HO
        obtain rfl | rfl | rfl | rfl | rfl | rfl | rfl | rfl := hmm
        · have ev : n / 256 ^ 0 % 256 = n % 256 := by rw [Int.pow_zero, Int.ediv_one]
          have hand := and255 n (by omega) (by omega)
          have hu8 := u8_mod n
          rw [ev] at HO2 hU HN
          clear ev
          go_wp2_with (at_builtin; refine wpList_appL EByte.elem rfl _ _ 33 rfl (.int .u8 0) 1 Tryz.underlying33 info_Byte2 rfl w.heap.size ar cr out [] rfl HN.out (by simp; omega) wr.heap.size 0 1 1 [n % 256] [] rfl rfl ⟨[], [], rfl, ⟨rfl, (Is.new wr #[.int .u8 (n % 256)] 5).cell 0 rfl, hU⟩, rfl⟩ (by simp) (by omega) (by unfold maxLen; omega) (by omega) ?_; intro ar2 cr2 w3 happ3 hb3)
          exact ⟨⟨0, out ++ [n % 256], ar2, cr2, by omega, by first | rfl | go_num, by rw [List.length_append]; rfl, Lib.hid happ3, HO2, Lib.hid ((HB.out.trans ((below1 wr _).mono hbs)).trans hb3)⟩, by simp [intOf]⟩
        · have ev : n / 256 ^ 1 % 256 = n / 256 % 256 := by rw [show (256 : Int) ^ 1 = 256 from by decide]
          have hand := and255 (n / 256) (by omega) (by omega)
          have hu8 := u8_mod (n / 256)
          rw [ev] at HO2 hU HN
          clear ev
          go_wp2_with (at_builtin; refine wpList_appL EByte.elem rfl _ _ 33 rfl (.int .u8 0) 1 Tryz.underlying33 info_Byte2 rfl w.heap.size ar cr out [] rfl HN.out (by simp; omega) wr.heap.size 0 1 1 [n / 256 % 256] [] rfl rfl ⟨[], [], rfl, ⟨rfl, (Is.new wr #[.int .u8 (n / 256 % 256)] 5).cell 0 rfl, hU⟩, rfl⟩ (by simp) (by omega) (by unfold maxLen; omega) (by omega) ?_; intro ar2 cr2 w3 happ3 hb3)
          exact ⟨⟨1, out ++ [n / 256 % 256], ar2, cr2, by omega, by first | rfl | go_num, by rw [List.length_append]; rfl, Lib.hid happ3, HO2, Lib.hid ((HB.out.trans ((below1 wr _).mono hbs)).trans hb3)⟩, by simp [intOf]⟩
        · have ev : n / 256 ^ 2 % 256 = n / 65536 % 256 := by rw [show (256 : Int) ^ 2 = 65536 from by decide]
          have hand := and255 (n / 65536) (by omega) (by omega)
          have hu8 := u8_mod (n / 65536)
          rw [ev] at HO2 hU HN
          clear ev
          go_wp2_with (at_builtin; refine wpList_appL EByte.elem rfl _ _ 33 rfl (.int .u8 0) 1 Tryz.underlying33 info_Byte2 rfl w.heap.size ar cr out [] rfl HN.out (by simp; omega) wr.heap.size 0 1 1 [n / 65536 % 256] [] rfl rfl ⟨[], [], rfl, ⟨rfl, (Is.new wr #[.int .u8 (n / 65536 % 256)] 5).cell 0 rfl, hU⟩, rfl⟩ (by simp) (by omega) (by unfold maxLen; omega) (by omega) ?_; intro ar2 cr2 w3 happ3 hb3)
          exact ⟨⟨2, out ++ [n / 65536 % 256], ar2, cr2, by omega, by first | rfl | go_num, by rw [List.length_append]; rfl, Lib.hid happ3, HO2, Lib.hid ((HB.out.trans ((below1 wr _).mono hbs)).trans hb3)⟩, by simp [intOf]⟩
        · have ev : n / 256 ^ 3 % 256 = n / 16777216 % 256 := by rw [show (256 : Int) ^ 3 = 16777216 from by decide]
          have hand := and255 (n / 16777216) (by omega) (by omega)
          have hu8 := u8_mod (n / 16777216)
          rw [ev] at HO2 hU HN
          clear ev
          go_wp2_with (at_builtin; refine wpList_appL EByte.elem rfl _ _ 33 rfl (.int .u8 0) 1 Tryz.underlying33 info_Byte2 rfl w.heap.size ar cr out [] rfl HN.out (by simp; omega) wr.heap.size 0 1 1 [n / 16777216 % 256] [] rfl rfl ⟨[], [], rfl, ⟨rfl, (Is.new wr #[.int .u8 (n / 16777216 % 256)] 5).cell 0 rfl, hU⟩, rfl⟩ (by simp) (by omega) (by unfold maxLen; omega) (by omega) ?_; intro ar2 cr2 w3 happ3 hb3)
          exact ⟨⟨3, out ++ [n / 16777216 % 256], ar2, cr2, by omega, by first | rfl | go_num, by rw [List.length_append]; rfl, Lib.hid happ3, HO2, Lib.hid ((HB.out.trans ((below1 wr _).mono hbs)).trans hb3)⟩, by simp [intOf]⟩
        · have ev : n / 256 ^ 4 % 256 = n / 4294967296 % 256 := by rw [show (256 : Int) ^ 4 = 4294967296 from by decide]
          have hand := and255 (n / 4294967296) (by omega) (by omega)
          have hu8 := u8_mod (n / 4294967296)
          rw [ev] at HO2 hU HN
          clear ev
          go_wp2_with (at_builtin; refine wpList_appL EByte.elem rfl _ _ 33 rfl (.int .u8 0) 1 Tryz.underlying33 info_Byte2 rfl w.heap.size ar cr out [] rfl HN.out (by simp; omega) wr.heap.size 0 1 1 [n / 4294967296 % 256] [] rfl rfl ⟨[], [], rfl, ⟨rfl, (Is.new wr #[.int .u8 (n / 4294967296 % 256)] 5).cell 0 rfl, hU⟩, rfl⟩ (by simp) (by omega) (by unfold maxLen; omega) (by omega) ?_; intro ar2 cr2 w3 happ3 hb3)
          exact ⟨⟨4, out ++ [n / 4294967296 % 256], ar2, cr2, by omega, by first | rfl | go_num, by rw [List.length_append]; rfl, Lib.hid happ3, HO2, Lib.hid ((HB.out.trans ((below1 wr _).mono hbs)).trans hb3)⟩, by simp [intOf]⟩
        · have ev : n / 256 ^ 5 % 256 = n / 1099511627776 % 256 := by rw [show (256 : Int) ^ 5 = 1099511627776 from by decide]
          have hand := and255 (n / 1099511627776) (by omega) (by omega)
          have hu8 := u8_mod (n / 1099511627776)
          rw [ev] at HO2 hU HN
          clear ev
          go_wp2_with (at_builtin; refine wpList_appL EByte.elem rfl _ _ 33 rfl (.int .u8 0) 1 Tryz.underlying33 info_Byte2 rfl w.heap.size ar cr out [] rfl HN.out (by simp; omega) wr.heap.size 0 1 1 [n / 1099511627776 % 256] [] rfl rfl ⟨[], [], rfl, ⟨rfl, (Is.new wr #[.int .u8 (n / 1099511627776 % 256)] 5).cell 0 rfl, hU⟩, rfl⟩ (by simp) (by omega) (by unfold maxLen; omega) (by omega) ?_; intro ar2 cr2 w3 happ3 hb3)
          exact ⟨⟨5, out ++ [n / 1099511627776 % 256], ar2, cr2, by omega, by first | rfl | go_num, by rw [List.length_append]; rfl, Lib.hid happ3, HO2, Lib.hid ((HB.out.trans ((below1 wr _).mono hbs)).trans hb3)⟩, by simp [intOf]⟩
        · have ev : n / 256 ^ 6 % 256 = n / 281474976710656 % 256 := by rw [show (256 : Int) ^ 6 = 281474976710656 from by decide]
          have hand := and255 (n / 281474976710656) (by omega) (by omega)
          have hu8 := u8_mod (n / 281474976710656)
          rw [ev] at HO2 hU HN
          clear ev
          go_wp2_with (at_builtin; refine wpList_appL EByte.elem rfl _ _ 33 rfl (.int .u8 0) 1 Tryz.underlying33 info_Byte2 rfl w.heap.size ar cr out [] rfl HN.out (by simp; omega) wr.heap.size 0 1 1 [n / 281474976710656 % 256] [] rfl rfl ⟨[], [], rfl, ⟨rfl, (Is.new wr #[.int .u8 (n / 281474976710656 % 256)] 5).cell 0 rfl, hU⟩, rfl⟩ (by simp) (by omega) (by unfold maxLen; omega) (by omega) ?_; intro ar2 cr2 w3 happ3 hb3)
          exact ⟨⟨6, out ++ [n / 281474976710656 % 256], ar2, cr2, by omega, by first | rfl | go_num, by rw [List.length_append]; rfl, Lib.hid happ3, HO2, Lib.hid ((HB.out.trans ((below1 wr _).mono hbs)).trans hb3)⟩, by simp [intOf]⟩
        · have ev : n / 256 ^ 7 % 256 = n / 72057594037927936 % 256 := by rw [show (256 : Int) ^ 7 = 72057594037927936 from by decide]
          have hand := and255 (n / 72057594037927936) (by omega) (by omega)
          have hu8 := u8_mod (n / 72057594037927936)
          rw [ev] at HO2 hU HN
          clear ev
          go_wp2_with (at_builtin; refine wpList_appL EByte.elem rfl _ _ 33 rfl (.int .u8 0) 1 Tryz.underlying33 info_Byte2 rfl w.heap.size ar cr out [] rfl HN.out (by simp; omega) wr.heap.size 0 1 1 [n / 72057594037927936 % 256] [] rfl rfl ⟨[], [], rfl, ⟨rfl, (Is.new wr #[.int .u8 (n / 72057594037927936 % 256)] 5).cell 0 rfl, hU⟩, rfl⟩ (by simp) (by omega) (by unfold maxLen; omega) (by omega) ?_; intro ar2 cr2 w3 happ3 hb3)
          exact ⟨⟨7, out ++ [n / 72057594037927936 % 256], ar2, cr2, by omega, by first | rfl | go_num, by rw [List.length_append]; rfl, Lib.hid happ3, HO2, Lib.hid ((HB.out.trans ((below1 wr _).mono hbs)).trans hb3)⟩, by simp [intOf]⟩
set_option maxHeartbeats 8000000 in
theorem impl_PutBig (b : List Int) (n k : Int) (a : Option Addr) (cap B : Nat) (w : World) (hr : Rd EByte 1 w B a cap b) (hf : fitW n k) (hn : n ≤ 9223372036854775807) (hz : b.length ≤ 1099511627776) (hB : B ≤ w.heap.size) :
    Calls Tryz.prog 151 #[.slice a b.length cap, .int .i64 n, .int .i64 k] w fun e w' => ∃ a' cap', e = .returned (.slice a' (b ++ bigL n k.toNat).length cap') ∧ AppL EByte 1 5 w' w.heap.size a' cap' (b ++ bigL n k.toNat) [] ∧ Below w.heap.size w w' := by
  obtain ⟨a1, c1, w1, hrun, happ, hb1⟩ := copyB w b a cap B hr hB hz
  obtain ⟨hl1, hl2⟩ := hr.len
  have HA1 := Lib.hid happ
  have HB1 := Lib.hid hb1
  have hk := fitW_w hf
  have hfd : decide (fitW n k) = true := decide_eq_true hf
  obtain ⟨hn0, hfk⟩ := hf
  have hs1 := hb1.size
  have hkb : okW k = true := (okW_iff k).2 hk
  have hkl : k.toNat ≤ 8 := by omega
  clear happ hb1 hr
  go_enter Tryz.func151, Tryz.ntmps151
  go_upto_region 2 with (at_builtin; refine Lib.wpList_append_run _ rfl _ _ _ _ rfl _ _ rfl rfl _ _ hrun ?_)
  clear hrun
  go_cut [20] (fun cv wx => cv = .bool false ∧ Hid (Below w1.heap.size w1 wx))
  case first =>
    go_wp2_with fail
    refine (impl_isWidth k _).mono ?_
    rintro e w2 ⟨rfl, hb2⟩
    rw [hkb]
    have K := Lib.hid hb2
    have ks := hb2.size
    clear hb2
    go_wp2_with fail
    refine (impl_fitsInto n k _ hk ⟨by omega, hn⟩).mono ?_
    rintro e w3 ⟨rfl, hb3⟩
    rw [hfd]
    have K2 := Lib.hid (K.out.trans (hb3.mono ks)); clear hb3
    go_wp2_with fail
    go_meet
    case rel => exact ⟨rfl, K2⟩
  case rest =>
    obtain ⟨rfl, HX⟩ := hcut
    rename World => wx
    have hk1 : -9223372036854775808 ≤ k - 1 ∧ k - 1 ≤ 9223372036854775807 := by omega
    have e1 : (k - 1 : Int) = ((k.toNat : Nat) : Int) - 1 := by omega
    have HE1 := Lib.hid e1
    clear e1 hfk
    go_upto_region 5 with (fail)
    have HX1 := Lib.hid (HA1.out.agree EByte.elem (fun f hf => HX.out.block f hf) hs1)
    have HX2 := Lib.hid (HB1.out.trans (HX.out.mono hs1))
    have hkz : k.toNat ≤ 8 := hkl
    go_loopw [7, 8] (fun q iv wr => ∃ (m : Nat) (out : List Int) (ar : Option Addr) (cr : Nat), m ≤ 8 ∧ iv = .int .i64 ((m : Int) - 1) ∧ q = .slice ar out.length cr ∧ Hid (AppL EByte 1 5 wr w.heap.size ar cr out []) ∧ Hid (out ++ bigL n m = b ++ bigL n k.toNat) ∧ Hid (Below w.heap.size w wr)) (fun _ iv _ => (intOf iv + 1).toNat)
    case atStart => exact ⟨k.toNat, b, a1, c1, hkl, by rw [← HE1.out], rfl, HX1, Lib.hid rfl, HX2⟩
    case round =>
      clear HX1 HX2 HA1 HB1 HX
      obtain ⟨m, out, ar, cr, hm, rfl, rfl, HA, HO, HB⟩ := hrel
      have hbs := HB.out.size
      have hol : out.length ≤ 1099511627784 := by
        have h1 := congrArg List.length HO.out
        rw [List.length_append, List.length_append, bigL_len, bigL_len] at h1; omega
      cases m with
      | zero =>
        have HE : Hid (out = b ++ bigL n k.toNat) := Lib.hid (by have := HO.out; rw [bigL, List.append_nil] at this; exact this)
        have h0 : ((0 : Nat) : Int) - 1 = -1 := rfl
        rw [h0]
        go_wp2_with fail
        go_ret
        exact ⟨ar, cr, by rw [← HE.out]; rfl, by rw [← HE.out]; exact HA.out, HB.out⟩
      | succ m =>
        have HO2 : Hid ((out ++ [n / 256 ^ m % 256]) ++ bigL n m = b ++ bigL n k.toNat) := Lib.hid (by have := HO.out; rw [bigL] at this; rw [List.append_assoc]; exact this)
        have h0 : ((m + 1 : Nat) : Int) - 1 = (m : Int) := by omega
        rw [h0]
        have hU : U8 (n / 256 ^ m % 256) := by unfold U8; omega
        have HN := Lib.hid (HA.out.agree EByte.elem (fun f hf => (below1 wr (.cells #[Value.int IntKind.u8 (n / 256 ^ m % 256)] 5)).block f hf) hbs)
        have hmm : m = 0 ∨ m = 1 ∨ m = 2 ∨ m = 3 ∨ m = 4 ∨ m = 5 ∨ m = 6 ∨ m = 7 := by omega
        clear HO
        obtain rfl | rfl | rfl | rfl | rfl | rfl | rfl | rfl := hmm
        · have ev : n / 256 ^ 0 % 256 = n % 256 := by rw [Int.pow_zero, Int.ediv_one]
          have hu8 : IntKind.u8.wrap n = n % 256 := IntKind.wrap_u8 _
          rw [ev] at HO2 hU HN
          clear ev
          go_wp2_with (at_builtin; refine wpList_appL EByte.elem rfl _ _ 33 rfl (.int .u8 0) 1 Tryz.underlying33 info_Byte2 rfl w.heap.size ar cr out [] rfl HN.out (by simp; omega) wr.heap.size 0 1 1 [n % 256] [] rfl rfl ⟨[], [], rfl, ⟨rfl, (Is.new wr #[.int .u8 (n % 256)] 5).cell 0 rfl, hU⟩, rfl⟩ (by simp) (by omega) (by unfold maxLen; omega) (by omega) ?_; intro ar2 cr2 w3 happ3 hb3)
          exact ⟨⟨0, out ++ [n % 256], ar2, cr2, by omega, by first | rfl | go_num, by rw [List.length_append]; rfl, Lib.hid happ3, HO2, Lib.hid ((HB.out.trans ((below1 wr _).mono hbs)).trans hb3)⟩, by simp [intOf]⟩
        · have ev : n / 256 ^ 1 % 256 = n / 256 % 256 := by rw [show (256 : Int) ^ 1 = 256 from by decide]
          have hu8 : IntKind.u8.wrap (n / 256) = n / 256 % 256 := IntKind.wrap_u8 _
          rw [ev] at HO2 hU HN
          clear ev
          go_wp2_with (at_builtin; refine wpList_appL EByte.elem rfl _ _ 33 rfl (.int .u8 0) 1 Tryz.underlying33 info_Byte2 rfl w.heap.size ar cr out [] rfl HN.out (by simp; omega) wr.heap.size 0 1 1 [n / 256 % 256] [] rfl rfl ⟨[], [], rfl, ⟨rfl, (Is.new wr #[.int .u8 (n / 256 % 256)] 5).cell 0 rfl, hU⟩, rfl⟩ (by simp) (by omega) (by unfold maxLen; omega) (by omega) ?_; intro ar2 cr2 w3 happ3 hb3)
          exact ⟨⟨1, out ++ [n / 256 % 256], ar2, cr2, by omega, by first | rfl | go_num, by rw [List.length_append]; rfl, Lib.hid happ3, HO2, Lib.hid ((HB.out.trans ((below1 wr _).mono hbs)).trans hb3)⟩, by simp [intOf]⟩
        · have ev : n / 256 ^ 2 % 256 = n / 65536 % 256 := by rw [show (256 : Int) ^ 2 = 65536 from by decide]
          have hu8 : IntKind.u8.wrap (n / 65536) = n / 65536 % 256 := IntKind.wrap_u8 _
          rw [ev] at HO2 hU HN
          clear ev
          go_wp2_with (at_builtin; refine wpList_appL EByte.elem rfl _ _ 33 rfl (.int .u8 0) 1 Tryz.underlying33 info_Byte2 rfl w.heap.size ar cr out [] rfl HN.out (by simp; omega) wr.heap.size 0 1 1 [n / 65536 % 256] [] rfl rfl ⟨[], [], rfl, ⟨rfl, (Is.new wr #[.int .u8 (n / 65536 % 256)] 5).cell 0 rfl, hU⟩, rfl⟩ (by simp) (by omega) (by unfold maxLen; omega) (by omega) ?_; intro ar2 cr2 w3 happ3 hb3)
          exact ⟨⟨2, out ++ [n / 65536 % 256], ar2, cr2, by omega, by first | rfl | go_num, by rw [List.length_append]; rfl, Lib.hid happ3, HO2, Lib.hid ((HB.out.trans ((below1 wr _).mono hbs)).trans hb3)⟩, by simp [intOf]⟩
        · have ev : n / 256 ^ 3 % 256 = n / 16777216 % 256 := by rw [show (256 : Int) ^ 3 = 16777216 from by decide]
          have hu8 : IntKind.u8.wrap (n / 16777216) = n / 16777216 % 256 := IntKind.wrap_u8 _
          rw [ev] at HO2 hU HN
          clear ev
          go_wp2_with (at_builtin; refine wpList_appL EByte.elem rfl _ _ 33 rfl (.int .u8 0) 1 Tryz.underlying33 info_Byte2 rfl w.heap.size ar cr out [] rfl HN.out (by simp; omega) wr.heap.size 0 1 1 [n / 16777216 % 256] [] rfl rfl ⟨[], [], rfl, ⟨rfl, (Is.new wr #[.int .u8 (n / 16777216 % 256)] 5).cell 0 rfl, hU⟩, rfl⟩ (by simp) (by omega) (by unfold maxLen; omega) (by omega) ?_; intro ar2 cr2 w3 happ3 hb3)
          exact ⟨⟨3, out ++ [n / 16777216 % 256], ar2, cr2, by omega, by first | rfl | go_num, by rw [List.length_append]; rfl, Lib.hid happ3, HO2, Lib.hid ((HB.out.trans ((below1 wr _).mono hbs)).trans hb3)⟩, by simp [intOf]⟩
        · have ev : n / 256 ^ 4 % 256 = n / 4294967296 % 256 := by rw [show (256 : Int) ^ 4 = 4294967296 from by decide]
          have hu8 : IntKind.u8.wrap (n / 4294967296) = n / 4294967296 % 256 := IntKind.wrap_u8 _
          rw [ev] at HO2 hU HN
          clear ev
          go_wp2_with (at_builtin; refine wpList_appL EByte.elem rfl _ _ 33 rfl (.int .u8 0) 1 Tryz.underlying33 info_Byte2 rfl w.heap.size ar cr out [] rfl HN.out (by simp; omega) wr.heap.size 0 1 1 [n / 4294967296 % 256] [] rfl rfl ⟨[], [], rfl, ⟨rfl, (Is.new wr #[.int .u8 (n / 4294967296 % 256)] 5).cell 0 rfl, hU⟩, rfl⟩ (by simp) (by omega) (by unfold maxLen; omega) (by omega) ?_; intro ar2 cr2 w3 happ3 hb3)
          exact ⟨⟨4, out ++ [n / 4294967296 % 256], ar2, cr2, by omega, by first | rfl | go_num, by rw [List.length_append]; rfl, Lib.hid happ3, HO2, Lib.hid ((HB.out.trans ((below1 wr _).mono hbs)).trans hb3)⟩, by simp [intOf]⟩
        · have ev : n / 256 ^ 5 % 256 = n / 1099511627776 % 256 := by rw [show (256 : Int) ^ 5 = 1099511627776 from by decide]
          have hu8 : IntKind.u8.wrap (n / 1099511627776) = n / 1099511627776 % 256 := IntKind.wrap_u8 _
          rw [ev] at HO2 hU HN
          clear ev
          go_wp2_with (at_builtin; refine wpList_appL EByte.elem rfl _ _ 33 rfl (.int .u8 0) 1 Tryz.underlying33 info_Byte2 rfl w.heap.size ar cr out [] rfl HN.out (by simp; omega) wr.heap.size 0 1 1 [n / 1099511627776 % 256] [] rfl rfl ⟨[], [], rfl, ⟨rfl, (Is.new wr #[.int .u8 (n / 1099511627776 % 256)] 5).cell 0 rfl, hU⟩, rfl⟩ (by simp) (by omega) (by unfold maxLen; omega) (by omega) ?_; intro ar2 cr2 w3 happ3 hb3)
          exact ⟨⟨5, out ++ [n / 1099511627776 % 256], ar2, cr2, by omega, by first | rfl | go_num, by rw [List.length_append]; rfl, Lib.hid happ3, HO2, Lib.hid ((HB.out.trans ((below1 wr _).mono hbs)).trans hb3)⟩, by simp [intOf]⟩
        · have ev : n / 256 ^ 6 % 256 = n / 281474976710656 % 256 := by rw [show (256 : Int) ^ 6 = 281474976710656 from by decide]
          have hu8 : IntKind.u8.wrap (n / 281474976710656) = n / 281474976710656 % 256 := IntKind.wrap_u8 _
          rw [ev] at HO2 hU HN
          clear ev
          go_wp2_with (at_builtin; refine wpList_appL EByte.elem rfl _ _ 33 rfl (.int .u8 0) 1 Tryz.underlying33 info_Byte2 rfl w.heap.size ar cr out [] rfl HN.out (by simp; omega) wr.heap.size 0 1 1 [n / 281474976710656 % 256] [] rfl rfl ⟨[], [], rfl, ⟨rfl, (Is.new wr #[.int .u8 (n / 281474976710656 % 256)] 5).cell 0 rfl, hU⟩, rfl⟩ (by simp) (by omega) (by unfold maxLen; omega) (by omega) ?_; intro ar2 cr2 w3 happ3 hb3)
          exact ⟨⟨6, out ++ [n / 281474976710656 % 256], ar2, cr2, by omega, by first | rfl | go_num, by rw [List.length_append]; rfl, Lib.hid happ3, HO2, Lib.hid ((HB.out.trans ((below1 wr _).mono hbs)).trans hb3)⟩, by simp [intOf]⟩
        · have ev : n / 256 ^ 7 % 256 = n / 72057594037927936 % 256 := by rw [show (256 : Int) ^ 7 = 72057594037927936 from by decide]
          have hu8 : IntKind.u8.wrap (n / 72057594037927936) = n / 72057594037927936 % 256 := IntKind.wrap_u8 _
          rw [ev] at HO2 hU HN
          clear ev
          go_wp2_with (at_builtin; refine wpList_appL EByte.elem rfl _ _ 33 rfl (.int .u8 0) 1 Tryz.underlying33 info_Byte2 rfl w.heap.size ar cr out [] rfl HN.out (by simp; omega) wr.heap.size 0 1 1 [n / 72057594037927936 % 256] [] rfl rfl ⟨[], [], rfl, ⟨rfl, (Is.new wr #[.int .u8 (n / 72057594037927936 % 256)] 5).cell 0 rfl, hU⟩, rfl⟩ (by simp) (by omega) (by unfold maxLen; omega) (by omega) ?_; intro ar2 cr2 w3 happ3 hb3)
          exact ⟨⟨7, out ++ [n / 72057594037927936 % 256], ar2, cr2, by omega, by first | rfl | go_num, by rw [List.length_append]; rfl, Lib.hid happ3, HO2, Lib.hid ((HB.out.trans ((below1 wr _).mono hbs)).trans hb3)⟩, by simp [intOf]⟩
end Go.Proofs.YthpmfkkmhbbloaaGreatDoor
namespace Go.Proofs.YthpmfkkmhbbloaaGreatDoor
open Go.ChangeShapes Go.WideShapes Go.ChangeAt Go.RowKit Go.Joins
set_option linter.unusedVariables false
set_option maxRecDepth 100000
abbrev cH (m n k : Int) : Array Value := #[Value.int IntKind.i64 m, Value.int IntKind.i64 n, Value.int IntKind.i64 k]
set_option maxHeartbeats 4000000 in
theorem spec_HeadOk (m n k : Int) (w : World) : Calls Tryz.prog 114 #[.agg (cH m n k)] w fun e w' => e = .returned (.bool (decide (headOk m n k))) ∧ Below w.heap.size w w' := by
  have q0 := Is.new w (cH m n k) 70
  obtain ⟨c0, c1, c2⟩ := q0.cells3
  have lg : w.heap.size < (w.alloc (.cells (cH m n k) 70)).heap.size := by simp
  by_cases hm : 0 ≤ m ∧ m ≤ 7
  case neg =>
    have HD := Lib.hid (show decide (headOk m n k) = false from decide_eq_false (fun h => hm h.1))
    have DM := Lib.hid (show decide (0 ≤ m ∧ m ≤ 7) = false from decide_eq_false hm)
    clear hm
    rw [HD.out]
    go_enter Tryz.func114, Tryz.ntmps114
    go_wp2_with (go_at_call 63; refine (spec_l1InE _ _ _ _).mono ?_; rintro ee w2 ⟨rfl, rfl⟩; rw [DM.out])
    go_ret
    exact ⟨rfl, by go_grown⟩
  have DM := Lib.hid (show decide (0 ≤ m ∧ m ≤ 7) = true from decide_eq_true hm)
  by_cases hn : 0 ≤ n ∧ n ≤ 1000000000000000
  case neg =>
    have HD := Lib.hid (show decide (headOk m n k) = false from decide_eq_false (fun h => hn h.2.1))
    have DN := Lib.hid (show decide (0 ≤ n ∧ n ≤ 1000000000000000) = false from decide_eq_false hn)
    clear hm hn
    rw [HD.out]
    go_enter Tryz.func114, Tryz.ntmps114
    go_wp2_with (go_at_call 63; refine (spec_l1InE _ _ _ _).mono ?_; rintro ee w2 ⟨rfl, rfl⟩; first | rw [DM.out] | rw [DN.out])
    go_ret
    exact ⟨rfl, by go_grown⟩
  have DN := Lib.hid (show decide (0 ≤ n ∧ n ≤ 1000000000000000) = true from decide_eq_true hn)
  by_cases hw : k = 0
  · subst hw
    have HD := Lib.hid (show decide (headOk m n 0) = decide (n ≤ 23) from decide_eq_decide.2 (by unfold headOk; omega))
    clear hm hn
    rw [HD.out]
    go_enter Tryz.func114, Tryz.ntmps114
    go_wp2_with (go_at_call 63; refine (spec_l1InE _ _ _ _).mono ?_; rintro ee w2 ⟨rfl, rfl⟩; first | rw [DM.out] | rw [DN.out])
    all_goals
      go_ret
      exact ⟨ret_b (by first | rfl | simp_all), by go_grown⟩
  by_cases hw : k = 1 ∨ k = 2 ∨ k = 4 ∨ k = 8
  · have HD := Lib.hid (show decide (headOk m n k) = decide (widthD n ≤ k) from decide_eq_decide.2 (by unfold headOk; omega))
    clear hm hn
    rw [HD.out]
    obtain rfl | rfl | rfl | rfl := hw
    all_goals
      go_enter Tryz.func114, Tryz.ntmps114
      go_wp2_with (first | (go_at_call 63; refine (spec_l1InE _ _ _ _).mono ?_; rintro ee w2 ⟨rfl, rfl⟩; first | rw [DM.out] | rw [DN.out]))
      generalize hW : w.alloc _ = W0 at *
      have hb0 : Below w.heap.size w W0 := by rw [← hW]; exact below1 _ _
      have HB0 := Lib.hid hb0
      have hs0 := hb0.size
      have lg2 : w.heap.size + 1 ≤ W0.heap.size := by omega
      clear hb0 q0 hW
      refine wp_region_held_drew (S := fun w' => (∀ b o, b < w.heap.size + 1 → w'.cell? ⟨b, o, none⟩ = W0.cell? ⟨b, o, none⟩) ∧ Below (w.heap.size + 1) W0 w') (by kernel_rfl) (by first | exact ⟨fun _ _ _ => rfl, (Below.refl _ _).drew⟩ | exact keep_step (by assumption) (Below.drew (Below.refl _ _)) (Nat.le_refl _) | exact keep_step (by assumption) (by assumption) (by first | omega | (simp only [World.size_drew]; omega) | (simp only [size_alloc]; omega) | (simp only [World.size_drew, size_alloc]; omega) | (have := (‹(_ ∧ Below (w.heap.size + 1) W0 _)›).2.size; first | omega | (simp only [World.size_drew]; omega) | (simp only [size_alloc]; omega) | (simp only [World.size_drew, size_alloc]; omega) | (simp only [World.size_drew] at this; omega) | (simp only [size_alloc] at this; omega) | (simp only [World.size_drew, size_alloc] at this; omega)))) (fun hHeld => ?_)
      refine wpAnyH_take (i := 0) (oi := ⟨some 25, _, _, _, _, _⟩) (v := ?_) rfl (by kernel_rfl) (by kernel_rfl) (by kernel_rfl) (fun _ _ _ h => h) (Or.inl ⟨by rfl, ?_⟩) (by assumption) ?_
      rotate_left 1
      · (intro w hSw; (try dsimp only at hSw); go_simp; try (with_reducible rfl))
      try simp only [Act.put, List.setIfInBounds_toArray, List.set_cons_zero, List.set_cons_succ]
      refine wpAnyH_take (i := 1) (oi := ⟨some 26, _, _, _, _, _⟩) (v := ?_) rfl (by kernel_rfl) (by kernel_rfl) (by kernel_rfl) (fun _ _ _ h => h) (Or.inl ⟨by rfl, ?_⟩) (by assumption) ?_
      rotate_left 1
      · (intro w hSw; (try dsimp only at hSw); go_simp; try (with_reducible rfl))
      try simp only [Act.put, List.setIfInBounds_toArray, List.set_cons_zero, List.set_cons_succ]
      refine wpAnyH_take (i := 3) (oi := ⟨some 28, _, _, _, _, _⟩) (v := ?_) rfl (by kernel_rfl) (by kernel_rfl) (by kernel_rfl) (fun _ _ _ h => h) (Or.inl ⟨by rfl, ?_⟩) (by assumption) ?_
      rotate_left 1
      · (intro w hSw; (try dsimp only at hSw); go_simp; try (with_reducible rfl))
      try simp only [Act.put, List.setIfInBounds_toArray, List.set_cons_zero, List.set_cons_succ]
      refine wpAnyH_take (i := 4) (oi := ⟨some 29, _, _, _, _, _⟩) (v := ?_) rfl (by kernel_rfl) (by kernel_rfl) (by kernel_rfl) (fun _ _ _ h => h) (Or.inl ⟨by rfl, ?_⟩) (by assumption) ?_
      rotate_left 1
      · (intro w hSw; (try dsimp only at hSw); go_simp; try (with_reducible rfl))
      try simp only [Act.put, List.setIfInBounds_toArray, List.set_cons_zero, List.set_cons_succ]
      refine wpAnyH_ready (rs := [2]) (by kernel_rfl) (by simp) ?_
      refine AllReadyH.cons (o := ⟨some 27, _, _, _, _, _⟩) rfl (fun K hK => ?_) AllReadyH.nil
      go_simp
      (first | (go_at_call 116; refine (spec_WidthFor _ _).mono ?_; rintro ee w2 ⟨rfl, hb2⟩))
      go_wp2_with fail
      refine hK.out _ _ (by first | exact ⟨fun _ _ _ => rfl, (Below.refl _ _).drew⟩ | exact keep_step (by assumption) (Below.drew (Below.refl _ _)) (Nat.le_refl _) | exact keep_step (by assumption) (by assumption) (by first | omega | (simp only [World.size_drew]; omega) | (simp only [size_alloc]; omega) | (simp only [World.size_drew, size_alloc]; omega) | (have := (‹(_ ∧ Below (w.heap.size + 1) W0 _)›).2.size; first | omega | (simp only [World.size_drew]; omega) | (simp only [size_alloc]; omega) | (simp only [World.size_drew, size_alloc]; omega) | (simp only [World.size_drew] at this; omega) | (simp only [size_alloc] at this; omega) | (simp only [World.size_drew, size_alloc] at this; omega)))) (fun hHeld => ?_)
      clear hK K
      try simp only [Act.put, List.setIfInBounds_toArray, List.set_cons_zero, List.set_cons_succ]
      refine wpAnyH_take (i := 5) (oi := ⟨some 30, _, _, _, _, _⟩) (v := ?_) rfl (by kernel_rfl) (by kernel_rfl) (by kernel_rfl) (fun _ _ _ h => h) (Or.inl ⟨by rfl, ?_⟩) (by assumption) ?_
      rotate_left 1
      · (intro w hSw; (try dsimp only at hSw); go_simp; try (with_reducible rfl))
      try simp only [Act.put, List.setIfInBounds_toArray, List.set_cons_zero, List.set_cons_succ]
      refine wpAnyH_take (i := 6) (oi := ⟨some 2, _, _, _, _, _⟩) (v := ?_) rfl (by kernel_rfl) (by kernel_rfl) (by kernel_rfl) (fun _ _ _ h => h) (Or.inl ⟨by rfl, ?_⟩) (by assumption) ?_
      rotate_left 1
      · (intro w hSw; (try dsimp only at hSw); go_simp; try (with_reducible rfl))
      try simp only [Act.put, List.setIfInBounds_toArray, List.set_cons_zero, List.set_cons_succ]
      refine wpAnyH_done (by kernel_rfl) ?_ _
      have HB2 := Lib.hid ((‹_ ∧ Below (w.heap.size + 1) W0 _›).2)
      go_wp2_with fail
      go_ret
      exact ⟨ret_b (by first | rfl | simp_all), HB0.out.trans (HB2.out.mono (by omega))⟩
  by_cases hw2 : k = -1
  · subst hw2
    have HD := Lib.hid (show decide (headOk m n (-1)) = (n == 0 && m != 0 && m != 1 && m != 6) from by rw [Bool.eq_iff_iff]; simp only [decide_eq_true_iff, Bool.and_eq_true, beq_iff_eq, bne_iff_ne]; unfold headOk; omega)
    clear hm hn
    rw [HD.out]
    go_enter Tryz.func114, Tryz.ntmps114
    go_wp2_with (go_at_call 63; refine (spec_l1InE _ _ _ _).mono ?_; rintro ee w2 ⟨rfl, rfl⟩; first | rw [DM.out] | rw [DN.out])
    all_goals
      go_ret
      exact ⟨ret_b (by first | rfl | simp_all), by go_grown⟩
  · have HD := Lib.hid (show decide (headOk m n k) = false from decide_eq_false (by unfold headOk; omega))
    have hwa : ¬ k = 1 := by omega
    have hwb : ¬ k = 2 := by omega
    have hwc : ¬ k = 4 := by omega
    have hwd : ¬ k = 8 := by omega
    clear hm hn hw
    rw [HD.out]
    go_enter Tryz.func114, Tryz.ntmps114
    go_wp2_with (go_at_call 63; refine (spec_l1InE _ _ _ _).mono ?_; rintro ee w2 ⟨rfl, rfl⟩; first | rw [DM.out] | rw [DN.out])
    all_goals
      go_ret
      exact ⟨ret_b (by first | rfl | simp_all), by go_grown⟩
set_option maxHeartbeats 4000000 in
theorem impl_HeadOk (m n k : Int) (w : World) (hn64 : I64 n) : Calls Tryz.prog 148 #[.agg (cH m n k)] w fun e w' => e = .returned (.bool (decide (headOk m n k))) ∧ Below w.heap.size w w' := by
  have HN := Lib.hid hn64
  have q0 := Is.new w (cH m n k) 70
  obtain ⟨c0, c1, c2⟩ := q0.cells3
  have lg : w.heap.size < (w.alloc (.cells (cH m n k) 70)).heap.size := by simp
  by_cases hm : 0 ≤ m ∧ m ≤ 7
  case neg =>
    have HD := Lib.hid (show decide (headOk m n k) = false from decide_eq_false (fun h => hm h.1))
    have DM := Lib.hid (show decide (0 ≤ m ∧ m ≤ 7) = false from decide_eq_false hm)
    clear hm hn64
    rw [HD.out]
    go_enter Tryz.func148, Tryz.ntmps148
    go_wp2_with (go_at_call 79; refine (impl_withinE _ _ _ _).mono ?_; rintro ee w2 ⟨rfl, rfl⟩; rw [DM.out])
    go_ret
    exact ⟨rfl, by go_grown⟩
  have DM := Lib.hid (show decide (0 ≤ m ∧ m ≤ 7) = true from decide_eq_true hm)
  by_cases hw : k = 0
  · subst hw
    have HD := Lib.hid (show decide (headOk m n 0) = decide (0 ≤ n ∧ n ≤ 23) from decide_eq_decide.2 (by unfold headOk; omega))
    clear hm hn64
    rw [HD.out]
    go_enter Tryz.func148, Tryz.ntmps148
    go_wp2_with (go_at_call 79; refine (impl_withinE _ _ _ _).mono ?_; rintro ee w2 ⟨rfl, rfl⟩; first | rw [DM.out] | skip)
    go_ret
    exact ⟨ret_b (by rw [Bool.decide_and]), by go_grown⟩
  by_cases hw2 : k = -1
  · subst hw2
    have HD := Lib.hid (show decide (headOk m n (-1)) = (n == 0 && decide (2 ≤ m) && m != 6) from by rw [Bool.eq_iff_iff]; simp only [decide_eq_true_iff, Bool.and_eq_true, beq_iff_eq, bne_iff_ne]; unfold headOk; omega)
    clear hm hn64
    rw [HD.out]
    go_enter Tryz.func148, Tryz.ntmps148
    go_wp2_with (go_at_call 79; refine (impl_withinE _ _ _ _).mono ?_; rintro ee w2 ⟨rfl, rfl⟩; first | rw [DM.out] | skip)
    all_goals
      go_ret
      exact ⟨ret_b (by first | rfl | (simp [*]; done) | (subst_vars; simp; done) | (subst_vars; simp; omega)), by go_grown⟩
  by_cases hw3 : k = 1 ∨ k = 2 ∨ k = 4 ∨ k = 8
  · have hkb := Lib.hid ((okW_iff k).2 hw3)
    by_cases hn : 0 ≤ n ∧ n ≤ 1000000000000000
    · have DN := Lib.hid (show decide (0 ≤ n ∧ n ≤ 1000000000000000) = true from decide_eq_true hn)
      have HD := Lib.hid (show decide (headOk m n k) = decide (fitW n k) from decide_eq_decide.2 ⟨fun h => (widthD_fit n k hn.1 hw3).2 (by unfold headOk at h; omega), fun h => by have h2 := (widthD_fit n k hn.1 hw3).1 h; unfold headOk; omega⟩)
      have HW := Lib.hid hw3
      clear hm hn64 hn hw3
      rw [HD.out]
      go_enter Tryz.func148, Tryz.ntmps148
      go_wp2_with (first | (go_at_call 79; refine (impl_withinE _ _ _ _).mono ?_; rintro ee w2 ⟨rfl, rfl⟩; first | rw [DM.out] | rw [DN.out]) | (go_at_call 162; refine (impl_isWidthE _ _).mono ?_; rintro ee w2 ⟨rfl, rfl⟩; rw [hkb.out]) | (go_at_call 163; refine (impl_fitsIntoE _ _ _ HW.out HN.out).mono ?_; rintro ee w2 ⟨rfl, rfl⟩))
      go_ret
      exact ⟨rfl, by go_grown⟩
    · have DN := Lib.hid (show decide (0 ≤ n ∧ n ≤ 1000000000000000) = false from decide_eq_false hn)
      have HD := Lib.hid (show decide (headOk m n k) = false from decide_eq_false (fun h => hn h.2.1))
      clear hm hn64 hn hw3
      rw [HD.out]
      go_enter Tryz.func148, Tryz.ntmps148
      go_wp2_with (first | (go_at_call 79; refine (impl_withinE _ _ _ _).mono ?_; rintro ee w2 ⟨rfl, rfl⟩; first | rw [DM.out] | rw [DN.out]) | (go_at_call 162; refine (impl_isWidthE _ _).mono ?_; rintro ee w2 ⟨rfl, rfl⟩; rw [hkb.out]))
      go_ret
      exact ⟨rfl, by go_grown⟩
  · have HD := Lib.hid (show decide (headOk m n k) = false from decide_eq_false (by unfold headOk; omega))
    have hkb : Hid (okW k = false) := Lib.hid (by cases h : okW k with | false => rfl | true => exact absurd ((okW_iff k).1 h) hw3)
    clear hm hn64 hw3
    rw [HD.out]
    go_enter Tryz.func148, Tryz.ntmps148
    go_wp2_with (first | (go_at_call 79; refine (impl_withinE _ _ _ _).mono ?_; rintro ee w2 ⟨rfl, rfl⟩; rw [DM.out]) | (go_at_call 162; refine (impl_isWidthE _ _).mono ?_; rintro ee w2 ⟨rfl, rfl⟩; rw [hkb.out]))
    go_ret
    exact ⟨rfl, by go_grown⟩
theorem impl_info (m n k : Int) (w : World) : Calls Tryz.prog 164 #[.agg (cH m n k)] w fun e w' => e = .returned (.int .i64 (infoD n k)) ∧ Below w.heap.size w w' := by
  have q0 := Is.new w (cH m n k) 70
  obtain ⟨c0, c1, c2⟩ := q0.cells3
  have lg : w.heap.size < (w.alloc (.cells (cH m n k) 70)).heap.size := by simp
  have HD := Lib.hid (show infoD n k = if k = 0 then n else if k = 1 then 24 else if k = 2 then 25 else if k = 4 then 26 else if k = 8 then 27 else 31 from rfl)
  by_cases h0 : k = 0
  · subst h0
    go_enter Tryz.func164, Tryz.ntmps164
    go_wp2
    go_ret
    exact ⟨rfl, by go_grown⟩
  by_cases h1 : k = 1
  · subst h1
    go_enter Tryz.func164, Tryz.ntmps164
    go_wp2
    go_ret
    exact ⟨rfl, by go_grown⟩
  by_cases h2 : k = 2
  · subst h2
    go_enter Tryz.func164, Tryz.ntmps164
    go_wp2
    go_ret
    exact ⟨rfl, by go_grown⟩
  by_cases h3 : k = 4
  · subst h3
    go_enter Tryz.func164, Tryz.ntmps164
    go_wp2
    go_ret
    exact ⟨rfl, by go_grown⟩
  by_cases h4 : k = 8
  · subst h4
    go_enter Tryz.func164, Tryz.ntmps164
    go_wp2
    go_ret
    exact ⟨rfl, by go_grown⟩
  go_enter Tryz.func164, Tryz.ntmps164
  go_wp2
  go_ret
  exact ⟨ret_i (by rw [HD.out, if_neg h0, if_neg h1, if_neg h2, if_neg h3, if_neg h4]), by go_grown⟩
theorem headFor_neg (m n k : Int) (hk : (if ¬ (0 ≤ n ∧ n ≤ 23) then widthD n else 0) = k) : headForD m n = if headOk m n k then (m, n, k) else (0, 0, 0) := by
  unfold headForD
  by_cases h : n < 0
  · rw [if_neg (by unfold headOk; omega), if_neg (by unfold headOk; omega)]
  · have : (if 23 < n then widthD n else 0) = k := by
      rw [← hk]
      by_cases h2 : 23 < n
      · rw [if_pos h2, if_pos (by omega)]
      · rw [if_neg h2, if_neg (by omega)]
    rw [this]
set_option maxHeartbeats 4000000 in
theorem spec_HeadFor (m n : Int) (w : World) (hn : I64 n) : Calls Tryz.prog 87 #[.int .i64 m, .int .i64 n] w fun e w' => e = .returned (.agg (cH (headForD m n).1 (headForD m n).2.1 (headForD m n).2.2)) ∧ Below w.heap.size w w' := by
  obtain ⟨k, hk⟩ : ∃ k, (if 23 < n then widthD n else 0) = k := ⟨_, rfl⟩
  obtain ⟨bb, hbb⟩ : ∃ b, decide (headOk m n k) = b := ⟨_, rfl⟩
  have HD := Lib.hid (show headForD m n = if bb = true then (m, n, k) else (0, 0, 0) from by unfold headForD; rw [hk, ← hbb]; simp only [decide_eq_true_eq])
  have HBB := Lib.hid hbb
  have HN := Lib.hid hn
  clear hbb hn
  go_enter Tryz.func87, Tryz.ntmps87
  go_upto_if 10 with (fail)
  generalize hW : (w.alloc (Obj.cells (cH 0 0 0) 70)).alloc (Obj.cells (cH m n 0) 70) = W0
  have q1 : Is W0 w.heap.size 70 (cH 0 0 0) := by subst hW; exact (Is.new _ _ _).alloc _
  have q2 : Is W0 (w.heap.size + 1) 70 (cH m n 0) := by subst hW; exact Is.new2 _ _ _ _
  have H0 := Lib.hid (show Below w.heap.size w W0 from by subst hW; exact below2 _ _ _)
  have hs0 : W0.heap.size = w.heap.size + 2 := by subst hW; simp
  clear hW
  go_cut [] (fun wx => Hid (Is wx w.heap.size 70 (cH 0 0 0)) ∧ Hid (Is wx (w.heap.size + 1) 70 (cH m n k)) ∧ Hid (Below w.heap.size w wx))
  case first =>
    by_cases h23 : 23 < n
    · have HK := Lib.hid (show widthD n = k from by rw [← hk, if_pos h23])
      obtain ⟨c0, c1, c2⟩ := q2.cells3
      have ff := fun i => q2.frozen i
      have Q1 := Lib.hid q1; have Q2 := Lib.hid q2
      have hl1 : w.heap.size + 1 < W0.heap.size := by omega
      clear q1 q2 hk
      all_goals
        go_wp2_with (go_at_call 116; refine (spec_WidthForE n _).mono ?_; rintro ee w2 ⟨rfl, rfl⟩; rw [HK.out])
        go_meet
        case rel => exact ⟨Lib.hid (Q1.out.miss _ 2 (by omega) _), Lib.hid (Q2.out.set 2 (.int .i64 k)), Lib.hid (H0.out.trans ((below1s _ _ 2 _).mono (by omega)))⟩
    · have HK := Lib.hid (show 0 = k from by rw [← hk, if_neg h23])
      have Q1 := Lib.hid q1; have Q2 := Lib.hid q2
      clear q1 q2 hk
      go_wp2_with fail
      go_meet
      case rel => exact ⟨Q1, Lib.hid (by rw [← HK.out]; exact Q2.out), H0⟩
  case rest =>
    clear q1 q2 H0 hs0
    obtain ⟨Q1, Q2, H1⟩ := hcut
    rename World => wx
    have hl1 := Q2.out.lt
    obtain ⟨c0, c1, c2⟩ := Q2.out.cells3
    go_wp2_with fail
    refine (spec_HeadOk m n k wx).mono ?_
    rintro ee w2 ⟨rfl, hb2⟩
    rw [HBB.out]
    have r1 := Q1.out.below hb2 (by omega)
    have r2 := Q2.out.below hb2 (by omega)
    have hs2 := hb2.size
    have H2 := Lib.hid (H1.out.trans (hb2.mono (by have := H1.out.size; omega)))
    obtain ⟨d0, d1, d2⟩ := r1.cells3
    obtain ⟨f0, f1, f2⟩ := r2.cells3
    have ff := fun i => r1.frozen i
    have hl2 : w.heap.size < w2.heap.size := by omega
    have hl3 : w.heap.size + 1 < w2.heap.size := by omega
    clear c0 c1 c2 hb2
    have R1 := Lib.hid r1
    clear r1 r2
    cases bb with
    | false =>
      have HD2 := Lib.hid (show headForD m n = (0, 0, 0) from HD.out)
      go_wp2_with fail
      obtain ⟨e0, e1, e2⟩ := (((R1.out.set 0 (.int .i64 0)).set 1 (.int .i64 0)).set 2 (.int .i64 0)).cells3
      refine bodyPost_ret (v := .agg #[.int .i64 0, .int .i64 0, .int .i64 0]) (by simp [results, Tryz.results87, go_sem, e0, e1, e2]) rfl ⟨by rw [HD2.out], H2.out.trans (below3s _ _ _ _ _)⟩
    | true =>
      have HD2 := Lib.hid (show headForD m n = (m, n, k) from HD.out)
      go_wp2_with fail
      obtain ⟨e0, e1, e2⟩ := (((R1.out.set 0 (.int .i64 m)).set 1 (.int .i64 n)).set 2 (.int .i64 k)).cells3
      refine bodyPost_ret (v := .agg #[.int .i64 m, .int .i64 n, .int .i64 k]) (by simp [results, Tryz.results87, go_sem, e0, e1, e2]) rfl ⟨by rw [HD2.out], H2.out.trans (below3s _ _ _ _ _)⟩
set_option maxHeartbeats 4000000 in
theorem impl_HeadFor (m n : Int) (w : World) (hn : I64 n) : Calls Tryz.prog 147 #[.int .i64 m, .int .i64 n] w fun e w' => e = .returned (.agg (cH (headForD m n).1 (headForD m n).2.1 (headForD m n).2.2)) ∧ Below w.heap.size w w' := by
  obtain ⟨k, hk⟩ : ∃ k, (if ¬ (0 ≤ n ∧ n ≤ 23) then widthD n else 0) = k := ⟨_, rfl⟩
  obtain ⟨bb, hbb⟩ : ∃ b, decide (headOk m n k) = b := ⟨_, rfl⟩
  have HD := Lib.hid (show headForD m n = if bb = true then (m, n, k) else (0, 0, 0) from by rw [headFor_neg m n k hk, ← hbb]; simp only [decide_eq_true_eq])
  have HBB := Lib.hid hbb
  have HN := Lib.hid hn
  clear hbb hn
  go_enter Tryz.func147, Tryz.ntmps147
  go_upto_if 11 with (go_at_call 79; refine (impl_withinE _ _ _ _).mono ?_; rintro ee w2 ⟨rfl, rfl⟩)
  generalize hW : (w.alloc (Obj.cells (cH 0 0 0) 70)).alloc (Obj.cells (cH m n 0) 70) = W0
  have q1 : Is W0 w.heap.size 70 (cH 0 0 0) := by subst hW; exact (Is.new _ _ _).alloc _
  have q2 : Is W0 (w.heap.size + 1) 70 (cH m n 0) := by subst hW; exact Is.new2 _ _ _ _
  have H0 := Lib.hid (show Below w.heap.size w W0 from by subst hW; exact below2 _ _ _)
  have hs0 : W0.heap.size = w.heap.size + 2 := by subst hW; simp
  clear hW
  go_cut [] (fun wx => Hid (Is wx w.heap.size 70 (cH 0 0 0)) ∧ Hid (Is wx (w.heap.size + 1) 70 (cH m n k)) ∧ Hid (Below w.heap.size w wx))
  case first =>
    by_cases h23 : ¬ (0 ≤ n ∧ n ≤ 23)
    · have HK := Lib.hid (show widthD n = k from by rw [← hk, if_pos h23])
      obtain ⟨c0, c1, c2⟩ := q2.cells3
      have ff := fun i => q2.frozen i
      have Q1 := Lib.hid q1; have Q2 := Lib.hid q2
      have hl1 : w.heap.size + 1 < W0.heap.size := by omega
      clear q1 q2 hk
      rcases (show n < 0 ∨ (0 ≤ n ∧ 23 < n) by omega) with hh | ⟨hh, hh2⟩
      all_goals
        clear h23
        first | simp only [show decide (0 ≤ n) = false from decide_eq_false (by omega), Bool.not_false, Bool.true_or] | simp only [show decide (0 ≤ n) = true from decide_eq_true (by omega), show decide (n ≤ 23) = false from decide_eq_false (by omega), Bool.not_true, Bool.not_false, Bool.false_or]
        go_wp2_with (go_at_call 161; refine (impl_WidthForE n _ HN.out).mono ?_; rintro ee w2 ⟨rfl, rfl⟩; rw [HK.out])
        go_meet
        case rel => exact ⟨Lib.hid (Q1.out.miss _ 2 (by omega) _), Lib.hid (Q2.out.set 2 (.int .i64 k)), Lib.hid (H0.out.trans ((below1s _ _ 2 _).mono (by omega)))⟩
    · simp only [show decide (0 ≤ n) = true from decide_eq_true (by omega), show decide (n ≤ 23) = true from decide_eq_true (by omega), Bool.not_true, Bool.false_or]
      have HK := Lib.hid (show 0 = k from by rw [← hk, if_neg h23])
      have Q1 := Lib.hid q1; have Q2 := Lib.hid q2
      clear q1 q2 hk
      go_wp2_with fail
      go_meet
      case rel => exact ⟨Q1, Lib.hid (by rw [← HK.out]; exact Q2.out), H0⟩
  case rest =>
    clear q1 q2 H0 hs0
    obtain ⟨Q1, Q2, H1⟩ := hcut
    rename World => wx
    have hl1 := Q2.out.lt
    obtain ⟨c0, c1, c2⟩ := Q2.out.cells3
    go_wp2_with fail
    refine (impl_HeadOk m n k wx HN.out).mono ?_
    rintro ee w2 ⟨rfl, hb2⟩
    rw [HBB.out]
    have r1 := Q1.out.below hb2 (by omega)
    have r2 := Q2.out.below hb2 (by omega)
    have hs2 := hb2.size
    have H2 := Lib.hid (H1.out.trans (hb2.mono (by have := H1.out.size; omega)))
    obtain ⟨d0, d1, d2⟩ := r1.cells3
    obtain ⟨f0, f1, f2⟩ := r2.cells3
    have ff := fun i => r1.frozen i
    have hl2 : w.heap.size < w2.heap.size := by omega
    have hl3 : w.heap.size + 1 < w2.heap.size := by omega
    clear c0 c1 c2 hb2
    have R1 := Lib.hid r1
    clear r1 r2
    cases bb with
    | false =>
      have HD2 := Lib.hid (show headForD m n = (0, 0, 0) from HD.out)
      go_wp2_with fail
      obtain ⟨e0, e1, e2⟩ := (((R1.out.set 0 (.int .i64 0)).set 1 (.int .i64 0)).set 2 (.int .i64 0)).cells3
      refine bodyPost_ret (v := .agg #[.int .i64 0, .int .i64 0, .int .i64 0]) (by simp [results, Tryz.results147, go_sem, e0, e1, e2]) rfl ⟨by rw [HD2.out], H2.out.trans (below3s _ _ _ _ _)⟩
    | true =>
      have HD2 := Lib.hid (show headForD m n = (m, n, k) from HD.out)
      go_wp2_with fail
      obtain ⟨e0, e1, e2⟩ := (((R1.out.set 0 (.int .i64 m)).set 1 (.int .i64 n)).set 2 (.int .i64 k)).cells3
      refine bodyPost_ret (v := .agg #[.int .i64 m, .int .i64 n, .int .i64 k]) (by simp [results, Tryz.results147, go_sem, e0, e1, e2]) rfl ⟨by rw [HD2.out], H2.out.trans (below3s _ _ _ _ _)⟩
end Go.Proofs.YthpmfkkmhbbloaaGreatDoor
