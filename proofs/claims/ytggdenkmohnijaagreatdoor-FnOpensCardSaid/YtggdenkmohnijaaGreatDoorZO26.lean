/- Texts of this proof, merged: TigH. No condition beyond what each theorem states. -/
import Derived.Test.YtggdenkmohnijaaGreatDoorZO23
import Derived.Test.YtggdenkmohnijaaGreatDoorZO22
set_option linter.unusedSimpArgs false
set_option linter.unnecessarySimpa false
namespace Go.Proofs.YtggdenkmohnijaaGreatDoor
open Go.ChangeShapes Go.WideShapes Go.ChangeAt Go.RowKit Go.Joins
set_option linter.unusedVariables false
set_option maxRecDepth 100000
set_option maxHeartbeats 8000000 in
theorem impl_GetBig (bs : List Int) (a : Option Addr) (cap B p k : Nat) (w : World) (hr : Rd EByte 1 w B a cap bs) (hB : B ≤ w.heap.size) (hk : k = 1 ∨ k = 2 ∨ k = 4 ∨ k = 8) (hp : p + k ≤ bs.length) (hl : bs.length ≤ 1099511627776) :
  Calls Tryz.prog 162 #[.slice a bs.length cap, .int .i64 p, .int .i64 k] w fun ee w' => ee = .returned (.tuple #[.int .i64 (if beN ((bs.drop p).take k) ≤ 1000000000000000 then beN ((bs.drop p).take k) else 0), .bool (decide (beN ((bs.drop p).take k) ≤ 1000000000000000))]) ∧ Below w.heap.size w w' := by
 obtain ⟨hlc, hcap⟩ := hr.len
 have HU := Lib.hid hr.u8
 obtain ⟨b, o, hae, hbl, hjunk⟩ := hr.byte p (by omega)
 clear hjunk
 subst hae
 have hlen : ((bs.drop p).take k).length = k := by rw [List.length_take, List.length_drop]; omega
 have hAU : ∀ x ∈ (bs.drop p).take k, U8 x := fun x hx => HU.out x (List.mem_of_mem_drop (List.mem_of_mem_take hx))
 have hrx := hr.mid p k (cap - p) hp (by omega) (by unfold maxLen; omega)
 obtain ⟨X, hX⟩ : ∃ X, (bs.drop p).take k = X := ⟨_, rfl⟩
 rw [hX] at hlen hAU hrx ⊢
 clear hX
 have HX := Lib.hid hrx; have HLEN := Lib.hid hlen; have HAU := Lib.hid hAU;
 obtain ⟨E, hE⟩ : ∃ E, p + k = E := ⟨_, rfl⟩
 have hEi : (p : Int) + (k : Int) = (E : Int) := by omega
 have HOK := Lib.hid (show okW (k : Int) = true from (okW_iff _).2 (by omega))
 have HEX := Lib.hid (show decide (((0 : Int) ≤ (k : Int) ∧ (k : Int) ≤ bs.length) ∧ (0 ≤ (p : Int) ∧ (p : Int) ≤ (bs.length : Int) - k)) = true from decide_eq_true (by omega))
 have hJC : ¬ cap = p := by omega
 have hI0 : (0 : Int) ≤ (p : Int) := by omega
 have hI1 : (p : Int) ≤ (E : Int) := by omega
 have hJw : IntKind.i64.wrap (p : Int) = (p : Int) := by rw [Go.IntWalk.i64_left, Go.IntWalk.wrap64_in _ ⟨by omega, by omega⟩]
 have hEJ : E - p = k := by omega
 have hJE2 : p ≤ E := by omega
 have hEc2 : E ≤ cap := by omega
 have hk8 : k ≤ 8 := by omega
 have HHE := Lib.hid hE
 obtain ⟨nr, hnr⟩ : ∃ nr, (if beN X ≤ 1000000000000000 then beN X else 0) = nr := ⟨_, rfl⟩
 obtain ⟨bd, hbd⟩ : ∃ bd, decide (beN X ≤ 1000000000000000) = bd := ⟨_, rfl⟩
 rw [hnr, hbd]
 have HNR := Lib.hid hnr; have HBD := Lib.hid hbd
 clear hr hrx hAU hlen hE hk hnr hbd
 go_enter Tryz.func162, Tryz.ntmps162
 go_wp2_with fail
 refine (impl_isWidthE _ _).mono ?_
 rintro ee w2 ⟨rfl, rfl⟩
 rw [HOK.out]
 go_wp2_with fail
 refine (impl_exist (some ⟨b, o, none⟩) bs.length cap (p : Int) (k : Int) _ hl ⟨by omega, by omega⟩).mono ?_
 rintro ee w3 ⟨rfl, hb3⟩
 rw [HEX.out]
 have hs3 := hb3.size
 have HB3 := Lib.hid hb3
 have HX3 := Lib.hid (HX.out.below EByte.loc hb3 hB)
 clear hb3 HX HOK HEX
 go_wp2_with fail
 go_loopw [8, 10, 28] (fun nv _ iv wr => ∃ j : Nat, j ≤ k ∧ iv = .int .i64 j ∧ nv = .int .u64 (beN (X.take j)) ∧ 0 ≤ beN (X.take j) ∧ beN (X.take j) < 256 ^ j ∧ wr = w3) (fun _ _ i _ => k - (intOf i).toNat)
 case atStart => exact ⟨0, by omega, rfl, rfl, by simp [beN, beF], by simp [beN, beF], rfl⟩
 case round =>
  obtain ⟨j, hj, rfl, rfl, hn0, hn1, rfl⟩ := hrel
  by_cases hlt : j < k
  ·have hltz : (j : Int) < (k : Int) := by omega
   have hjX : j < X.length := by rw [HLEN.out]; exact hlt
   obtain ⟨b', o', hae, hbl2, hcell, hx0, hx1⟩ := HX3.out.byte j hjX
   cases hae
   have hlb : b < wr.heap.size := by omega
   have hsn : beN (X.take (j + 1)) = beN (X.take j) * 256 + X[j] := by unfold beN; rw [take_snoc X j hjX, beF_append]; rfl
   have hpw : (256 : Int) ^ j ≤ 72057594037927936 := by
    have : (256 : Int) ^ j = ((256 ^ j : Nat) : Int) := by simp
    rw [this]
    have := Nat.pow_le_pow_right (show 0 < 256 by omega) (show j ≤ 7 by omega)
    have e : (256 : Nat) ^ 7 = 72057594037927936 := by decide
    omega
   have hp1 : (256 : Int) ^ (j + 1) = 256 ^ j * 256 := Int.pow_succ ..
   have HSN := Lib.hid hsn; have HP1 := Lib.hid hp1; clear hsn hp1
   generalize (256 : Int) ^ j = pj at *
   generalize X[j] = x at *
   generalize beN (X.take j) = n at *
   have hor := or_u64 n x hn0 (by omega) hx0 hx1
   have hwu : IntKind.u64.wrap (n * 256) = n * 256 := by simp [IntKind.wrap, IntKind.bits, IntKind.signed]; omega
   go_wp2_with fail
   go_roundw
   case rel => exact ⟨j + 1, by omega, by go_num, by rw [HSN.out], by rw [HSN.out]; omega, by rw [HSN.out, HP1.out]; omega, by first | rfl | trivial⟩
   case measure => simp [intOf]; omega
  ·obtain rfl : j = k := by omega
   have hXk : X.take j = X := by rw [List.take_of_length_le]; rw [HLEN.out]; exact Nat.le_refl _
   rw [hXk] at hn0 hn1 ⊢
   have hltz : ¬ (j : Int) < (j : Int) := by omega
   obtain ⟨n, hn⟩ : ∃ n, beN X = n := ⟨_, rfl⟩
   rw [hn] at hn0 hn1 ⊢
   clear hXk
   by_cases hm : n ≤ 1000000000000000
   ·have hm2 : ¬ 1000000000000000 < n := by omega
    have HD := Lib.hid (show bd = true from by rw [← HBD.out, hn]; exact decide_eq_true hm)
    have HM := Lib.hid (show nr = n from by rw [← HNR.out, hn, if_pos hm])
    clear hn hm
    go_wp2_with fail
    go_ret2
    exact ⟨by rw [HD.out, HM.out]; rfl, HB3.out⟩
   ·have hm2 : 1000000000000000 < n := by omega
    have HD := Lib.hid (show bd = false from by rw [← HBD.out, hn]; exact decide_eq_false hm)
    have HM := Lib.hid (show nr = 0 from by rw [← HNR.out, hn, if_neg hm])
    clear hn hm
    go_wp2_with fail
    go_ret2
    exact ⟨by rw [HD.out, HM.out]; rfl, HB3.out⟩
theorem impl_GetBigI (bs : List Int) (a : Option Addr) (cap B p k : Nat) (kz : Int) (hkz : kz = (k : Int)) (w : World) (hr : Rd EByte 1 w B a cap bs) (hB : B ≤ w.heap.size) (hk : k = 1 ∨ k = 2 ∨ k = 4 ∨ k = 8) (hp : p + k ≤ bs.length) (hl : bs.length ≤ 1099511627776) :
  Calls Tryz.prog 162 #[.slice a bs.length cap, .int .i64 p, .int .i64 kz] w fun ee w' => ee = .returned (.tuple #[.int .i64 (if beN ((bs.drop p).take k) ≤ 1000000000000000 then beN ((bs.drop p).take k) else 0), .bool (decide (beN ((bs.drop p).take k) ≤ 1000000000000000))]) ∧ Below w.heap.size w w' := by
 subst hkz; exact impl_GetBig bs a cap B p k w hr hB hk hp hl
def getH (bs : List Int) (p : Int) : (Int × Int × Int) × Int × Int :=
 if 0 ≤ p ∧ p < bs.length then (match rdH (bs.drop p.toNat) with | .error c => ((0, 0, 0), 0, c) | .ok (h, u) => (h, p + u, 0)) else ((0, 0, 0), 0, 1)
theorem getH_at {bs : List Int} {j : Nat} (hj : j < bs.length) : getH bs j = (match rdH (bs[j] :: bs.drop (j + 1)) with | .error c => ((0, 0, 0), 0, c) | .ok (h, u) => (h, (j : Int) + u, 0)) := by
 unfold getH
 rw [if_pos ⟨by omega, by omega⟩, Int.toNat_natCast, List.drop_eq_getElem_cons hj]
theorem getH_rdH (bs : List Int) (p : Nat) (hp : p ≤ bs.length) : getH bs p = (match rdH (bs.drop p) with | .error c => ((0, 0, 0), 0, c) | .ok (h, u) => (h, (p : Int) + u, 0)) := by
 unfold getH
 by_cases h : p < bs.length
 ·rw [if_pos ⟨by omega, by omega⟩, Int.toNat_natCast]
 ·rw [if_neg (by omega), List.drop_eq_nil_of_le (by omega)]; rfl
theorem getH_small {bs : List Int} {j : Nat} (hj : j < bs.length) {m i : Int} (hm : bs[j] / 32 = m) (hi : bs[j] % 32 = i) (h : i < 24) : getH bs j = ((m, i, 0), (j : Int) + 1, 0) := by
 rw [getH_at hj, rdH, hi, hm, if_pos h]; rfl
theorem getH_open {bs : List Int} {j : Nat} (hj : j < bs.length) {m : Int} (hm : bs[j] / 32 = m) (hi : bs[j] % 32 = 31) (h : ¬ (m = 0 ∨ m = 1 ∨ m = 6)) : getH bs j = ((m, 0, -1), (j : Int) + 1, 0) := by
 rw [getH_at hj, rdH, hi, hm, if_neg (by decide), if_pos rfl, if_neg h]; rfl
theorem getH_shut {bs : List Int} {j : Nat} (hj : j < bs.length) {m : Int} (hm : bs[j] / 32 = m) (hi : bs[j] % 32 = 31) (h : m = 0 ∨ m = 1 ∨ m = 6) : getH bs j = ((0, 0, 0), 0, 1) := by
 rw [getH_at hj, rdH, hi, hm, if_neg (by decide), if_pos rfl, if_pos h]
theorem getH_bad {bs : List Int} {j : Nat} (hj : j < bs.length) {i : Int} (hi : bs[j] % 32 = i) (h : 24 ≤ i ∧ i ≠ 31) (h2 : 27 < i ∨ bs.length - (j + 1) < wideD i) : getH bs j = ((0, 0, 0), 0, 1) := by
 rw [getH_at hj, rdH, hi, if_neg (by omega), if_neg h.2, if_pos (by rw [List.length_drop]; exact h2)]
theorem getH_wide {bs : List Int} {j : Nat} (hj : j < bs.length) {m i : Int} (hm : bs[j] / 32 = m) (hi : bs[j] % 32 = i) (h : 24 ≤ i ∧ i ≤ 27) (h2 : wideD i ≤ bs.length - (j + 1)) :
  getH bs j = if beN ((bs.drop (j + 1)).take (wideD i)) ≤ 1000000000000000 then ((m, beN ((bs.drop (j + 1)).take (wideD i)), ((wideD i : Nat) : Int)), (j : Int) + (wideD i + 1 : Nat), 0) else ((0, 0, 0), 0, 2) := by
 rw [getH_at hj, rdH, hi, hm, if_neg (by omega), if_neg (by omega), if_neg (by rw [List.length_drop]; omega)]
 by_cases h3 : beN ((bs.drop (j + 1)).take (wideD i)) ≤ 1000000000000000
 ·rw [if_pos h3, if_pos h3]
 ·rw [if_neg h3, if_neg h3]
set_option maxHeartbeats 8000000 in
theorem impl_GetHead (bs : List Int) (a : Option Addr) (cap B : Nat) (p : Int) (w : World) (hr : Rd EByte 1 w B a cap bs) (hB : B ≤ w.heap.size) (hp : I64 p) (hl : bs.length ≤ 1099511627776) :
  Calls Tryz.prog 102 #[.slice a bs.length cap, .int .i64 p] w fun ee w' => ee = .returned (.tuple #[.agg (cH (getH bs p).1.1 (getH bs p).1.2.1 (getH bs p).1.2.2), .int .i64 (getH bs p).2.1, .int .i64 (getH bs p).2.2]) ∧ Below w.heap.size w w' := by
 obtain ⟨hp0, hp1⟩ := hp
 obtain ⟨hlc, hcap⟩ := hr.len
 have HR := Lib.hid hr; clear hr
 have q0 := Is.new w (cH 0 0 0) 56
 have ff := fun i => q0.frozen i
 obtain ⟨z0, z1, z2⟩ := q0.cells3
 have lg : w.heap.size < (w.alloc (.cells (cH 0 0 0) 56)).heap.size := by simp
 by_cases hin : 0 ≤ p ∧ p < bs.length
 case neg =>
  have HD := Lib.hid (show getH bs p = ((0, 0, 0), 0, 1) from if_neg hin)
  rw [HD.out]; clear HD
  have HE := Lib.hid (show decide (0 ≤ p ∧ p ≤ (bs.length : Int) - 1) = false from decide_eq_false (by omega))
  clear hin
  go_enter Tryz.func102, Tryz.ntmps102
  go_wp2_with fail
  refine (impl_withinE _ _ _ _).mono ?_
  rintro ee w2 ⟨rfl, rfl⟩
  rw [HE.out]
  go_wp2_with fail
  obtain ⟨e0, e1, e2⟩ := (((q0.set 0 (.int .i64 0)).set 1 (.int .i64 0)).set 2 (.int .i64 0)).cells3
  refine bodyPost_ret (v := .tuple #[.agg (cH 0 0 0), .int .i64 0, .int .i64 1]) (by simp [results, Tryz.results102, go_sem, e0, e1, e2]) rfl ⟨rfl, by first | exact below1 w _ | exact (below1 w _).trans ((below3s _ _ _ _ _).mono (Nat.le_refl _))⟩
 obtain ⟨j, rfl⟩ : ∃ j : Nat, p = j := ⟨p.toNat, by omega⟩
 have hj : j < bs.length := by omega
 have HE := Lib.hid (show decide (0 ≤ (j : Int) ∧ (j : Int) ≤ (bs.length : Int) - 1) = true from decide_eq_true (by omega))
 obtain ⟨b, o, hae, hbl, hcell, hx0, hx1⟩ := HR.out.byte j hj
 subst hae
 have HJ := Lib.hid hj
 obtain ⟨c, hc⟩ : ∃ c, bs[j] = c := ⟨_, rfl⟩
 have hx0 : 0 ≤ c := hc ▸ hx0
 have hx1 : c ≤ 255 := hc ▸ hx1
 have hcell : w.cell? ⟨b, o + j, none⟩ = some (.int .u8 c) := hc ▸ hcell
 have HCC := Lib.hid hc; clear hc hin hp0 hp1
 have hltz : (j : Int) < (bs.length : Int) := by omega
 obtain ⟨G, hG⟩ : ∃ G, getH bs (j : Int) = G := ⟨_, rfl⟩
 rw [hG]
 have HG := Lib.hid hG; clear hG
 go_enter Tryz.func102, Tryz.ntmps102
 go_wp2_with fail
 refine (impl_withinE _ _ _ _).mono ?_
 rintro ee w2 ⟨rfl, rfl⟩
 rw [HE.out]
 clear HE
 go_upto_region 3 with (fail)
 have hs1 : (w.alloc (.cells (cH 0 0 0) 56)).heap.size = w.heap.size + 1 := by simp
 obtain ⟨R, hR⟩ : ∃ R, w.heap.size = R := ⟨_, rfl⟩
 have HI := Lib.hid (show Is (w.alloc (.cells (cH 0 0 0) 56)) R 56 (cH 0 0 0) from hR ▸ q0)
 have HB1 := Lib.hid (below1 w (.cells (cH 0 0 0) 56))
 have hc1 : (w.alloc (.cells (cH 0 0 0) 56)).cell? ⟨b, o + j, none⟩ = some (.int .u8 c) := (World.cell?_of_block (HB1.out.block b (by omega))).trans hcell
 have hbR : b < R := by omega
 clear z0 z1 z2 ff q0 hcell lg
 rw [hR] at hs1 HB1
 try rw [hR]
 generalize w.alloc (.cells (cH 0 0 0) 56) = w1 at *
 have hR1 : R < w1.heap.size := by omega
 have hb1 : b < w1.heap.size := by omega
 go_cut [7, 8] (fun hv iv wx => hv = .pointer (some ⟨R + 1, 0, none⟩) ∧ iv = .int .i64 (c % 32) ∧ Hid (Is wx (R + 1) 56 (cH (c / 32) 0 0)) ∧ Hid (Below (R + 1) w1 wx))
 case first =>
  go_region
  go_wp2_with fail
  go_meet
  case rel => exact ⟨rfl, rfl, Lib.hid (hs1 ▸ ((Is.new w1 _ _).agree rfl)), Lib.hid (hs1 ▸ (below1 w1 _).drew)⟩
 case rest =>
  obtain ⟨rfl, rfl, HH, HBX⟩ := hcut
  rename World => w2
  have hs2 : R + 1 < w2.heap.size := HH.out.lt
  have HI2 := Lib.hid (HI.out.below HBX.out (by omega))
  have HB2 := Lib.hid (show Below R w w2 from HB1.out.trans (HBX.out.mono (by omega)))
  have hc2 : w2.cell? ⟨b, o + j, none⟩ = some (.int .u8 c) := (World.cell?_of_block (HBX.out.block b (by omega))).trans hc1
  have HR2 := Lib.hid (HR.out.below EByte.loc (hR ▸ HB2.out) hB)
  have hRs : R < w2.heap.size := by omega
  have hB2 : B ≤ w2.heap.size := by omega
  clear HI HB1 HBX hc1 hs1 hR1 hb1 HR
  obtain ⟨i, hi⟩ : ∃ i, c % 32 = i := ⟨_, rfl⟩
  obtain ⟨m, hm⟩ : ∃ m, c / 32 = m := ⟨_, rfl⟩
  have hi0 : 0 ≤ i := by omega
  have hi1 : i ≤ 31 := by omega
  have hm0 : 0 ≤ m := by omega
  have hm1 : m ≤ 7 := by omega
  rw [hi]
  rw [hm] at HH
  have HMM := Lib.hid (show bs[j] / 32 = m from by rw [HCC.out]; exact hm)
  have HII := Lib.hid (show bs[j] % 32 = i from by rw [HCC.out]; exact hi)
  clear hi hm hc2 HCC
  clear hx0 hx1
  obtain ⟨J, hJ⟩ : ∃ J, j + 1 = J := ⟨_, rfl⟩
  have hji : (j : Int) + 1 = (J : Int) := by omega
  have hJl : J ≤ bs.length := by omega
  by_cases i24 : i < 24
  ·have HGE := Lib.hid (show G = ((m, i, 0), (J : Int), 0) from by rw [← HG.out, getH_small HJ.out HMM.out HII.out i24, hji])
   have fr := fun i => HI2.out.frozen i
   have fh := fun i => HH.out.frozen i
   obtain ⟨r0, r1, r2⟩ := HI2.out.cells3
   obtain ⟨h0, h1, h2⟩ := HH.out.cells3
   clear HG
   go_wp2_with fail
   obtain ⟨e0, e1, e2⟩ := ((((HI2.out.miss (R + 1) 1 (by omega) (.int .i64 i)).set 0 (.int .i64 m)).set 1 (.int .i64 i)).set 2 (.int .i64 0)).cells3
   refine bodyPost_ret (v := .tuple #[.agg (cH m i 0), .int .i64 (J : Int), .int .i64 0]) (by simp [results, Tryz.results102, go_sem, e0, e1, e2]) rfl ⟨by rw [HGE.out], ?_⟩
   exact hR ▸ ((HB2.out.trans ((below1s _ (R + 1) 1 (.int .i64 i)).mono (by omega))).trans (below3s _ R (.int .i64 m) (.int .i64 i) (.int .i64 0)))
  by_cases i31 : i = 31
  ·subst i31
   have FIN := Lib.hid (fun (x y z : Value) => (show Below w.heap.size w ((((w2.setCell ⟨R + 1, 2, none⟩ (.int .i64 (-1))).setCell ⟨R, 0, none⟩ x).setCell ⟨R, 1, none⟩ y).setCell ⟨R, 2, none⟩ z) from hR ▸ ((HB2.out.trans ((below1s _ (R + 1) 2 (.int .i64 (-1))).mono (by omega))).trans (below3s _ R x y z))))
   by_cases hmo : m = 0 ∨ m = 1 ∨ m = 6
   ·have HGE := Lib.hid (show G = ((0, 0, 0), 0, 1) from by rw [← HG.out, getH_shut HJ.out HMM.out HII.out hmo])
    have HOK := Lib.hid (show decide (headOk m 0 (-1)) = false from decide_eq_false (fun h => by obtain ⟨_, _, h⟩ := h; omega))
    have fr := fun i => HI2.out.frozen i
    have fh := fun i => HH.out.frozen i
    obtain ⟨r0, r1, r2⟩ := HI2.out.cells3
    obtain ⟨h0, h1, h2⟩ := HH.out.cells3
    clear HG hmo
    go_wp2_with (go_at_call 160; refine (impl_HeadOk m 0 (-1) _ ⟨by decide, by decide⟩).mono ?_; rintro ee w3 ⟨rfl, hb3⟩; rw [HOK.out]; (try simp only [size_set] at hb3); have HI3 := Lib.hid ((HI2.out.miss (R + 1) 2 (by omega) (.int .i64 (-1))).below hb3 (by omega)); have f3 := (fun i => HI3.out.frozen i); have l3 := HI3.out.lt; obtain ⟨o0, o1, o2⟩ := HI3.out.cells3)
    obtain ⟨e0, e1, e2⟩ := (((HI3.out.set 0 (.int .i64 0)).set 1 (.int .i64 0)).set 2 (.int .i64 0)).cells3
    refine bodyPost_ret (v := .tuple #[.agg (cH 0 0 0), .int .i64 0, .int .i64 1]) (by simp [results, Tryz.results102, go_sem, e0, e1, e2]) rfl ⟨by rw [HGE.out], ?_⟩
    exact hR ▸ (((HB2.out.trans ((below1s _ (R + 1) 2 (.int .i64 (-1))).mono (by omega))).trans (hb3.mono (by omega))).trans (below3s _ R _ _ _))
   ·have HGE := Lib.hid (show G = ((m, 0, -1), (J : Int), 0) from by rw [← HG.out, getH_open HJ.out HMM.out HII.out hmo, hji])
    have HOK := Lib.hid (show decide (headOk m 0 (-1)) = true from decide_eq_true ⟨⟨hm0, hm1⟩, by decide, Or.inr (Or.inr ⟨rfl, rfl, by omega⟩)⟩)
    have fr := fun i => HI2.out.frozen i
    have fh := fun i => HH.out.frozen i
    obtain ⟨r0, r1, r2⟩ := HI2.out.cells3
    obtain ⟨h0, h1, h2⟩ := HH.out.cells3
    clear HG hmo
    go_wp2_with (go_at_call 160; refine (impl_HeadOk m 0 (-1) _ ⟨by decide, by decide⟩).mono ?_; rintro ee w3 ⟨rfl, hb3⟩; rw [HOK.out]; (try simp only [size_set] at hb3); have HI3 := Lib.hid ((HI2.out.miss (R + 1) 2 (by omega) (.int .i64 (-1))).below hb3 (by omega)); have HH3 := Lib.hid ((HH.out.set 2 (.int .i64 (-1))).below hb3 (by omega)); have f3 := (fun i => HI3.out.frozen i); have l3 := HI3.out.lt; obtain ⟨o0, o1, o2⟩ := HI3.out.cells3; obtain ⟨g0, g1, g2⟩ := HH3.out.cells3)
    obtain ⟨e0, e1, e2⟩ := (((HI3.out.set 0 (.int .i64 m)).set 1 (.int .i64 0)).set 2 (.int .i64 (-1))).cells3
    refine bodyPost_ret (v := .tuple #[.agg (cH m 0 (-1)), .int .i64 (J : Int), .int .i64 0]) (by simp [results, Tryz.results102, go_sem, e0, e1, e2]) rfl ⟨by rw [HGE.out], ?_⟩
    exact hR ▸ (((HB2.out.trans ((below1s _ (R + 1) 2 (.int .i64 (-1))).mono (by omega))).trans (hb3.mono (by omega))).trans (below3s _ R _ _ _))
  have b31 : (i == 31) = false := by simpa using i31
  by_cases i28 : 27 < i
  ·have HGE := Lib.hid (show G = ((0, 0, 0), 0, 1) from by rw [← HG.out, getH_bad HJ.out HII.out ⟨by omega, i31⟩ (Or.inl i28)])
   have fr := fun i => HI2.out.frozen i
   obtain ⟨r0, r1, r2⟩ := HI2.out.cells3
   clear HG
   go_wp2_with fail
   obtain ⟨e0, e1, e2⟩ := (((HI2.out.set 0 (.int .i64 0)).set 1 (.int .i64 0)).set 2 (.int .i64 0)).cells3
   refine bodyPost_ret (v := .tuple #[.agg (cH 0 0 0), .int .i64 0, .int .i64 1]) (by simp [results, Tryz.results102, go_sem, e0, e1, e2]) rfl ⟨by rw [HGE.out], ?_⟩
   exact hR ▸ (HB2.out.trans (below3s _ R _ _ _))
  have HJB := Lib.hid (show bs.length - (j + 1) = bs.length - J from by omega)
  have HDJ := Lib.hid (show bs.drop (j + 1) = bs.drop J from by rw [hJ])
  rcases (show i = 24 ∨ i = 25 ∨ i = 26 ∨ i = 27 from by omega) with rfl | rfl | rfl | rfl
  ·have HW := Lib.hid (fun h => getH_wide HJ.out HMM.out HII.out (by decide) (show wideD 24 ≤ bs.length - (j + 1) from h))
   have HWB := Lib.hid (fun h => getH_bad HJ.out HII.out (by decide) (Or.inr (show bs.length - (j + 1) < wideD 24 from h)))
   rw [show wideD 24 = 1 from rfl, HJB.out, HDJ.out] at HW
   rw [show wideD 24 = 1 from rfl, HJB.out] at HWB
   have fr := fun i => HI2.out.frozen i
   have fh := fun i => HH.out.frozen i
   obtain ⟨r0, r1, r2⟩ := HI2.out.cells3
   obtain ⟨h0, h1, h2⟩ := HH.out.cells3
   clear i24 i31 i28 b31 hJ HII
   by_cases hx : 1 ≤ bs.length - J
   ·have HEX := Lib.hid (show decide (((0 : Int) ≤ 1 ∧ (1 : Int) ≤ bs.length) ∧ (0 ≤ (J : Int) ∧ (J : Int) ≤ (bs.length : Int) - 1)) = true from decide_eq_true (by omega))
    obtain ⟨X, hX⟩ : ∃ X, (bs.drop J).take 1 = X := ⟨_, rfl⟩
    have HGX := Lib.hid (HG.out.symm.trans (HW.out hx))
    rw [hX] at HGX
    have HXX := Lib.hid hX; clear hX HW HWB HG
    obtain ⟨E, hE⟩ : ∃ E, J + 1 = E := ⟨_, rfl⟩
    have hei : (J : Int) + 1 = (E : Int) := by omega
    have HEE := Lib.hid (show (j : Int) + ((1 + 1 : Nat) : Int) = (E : Int) from by omega)
    have HPK := Lib.hid (show J + 1 ≤ bs.length from by omega)
    clear hx hE
    go_wp2_with (go_at_call 161; refine (impl_exist (some ⟨b, o, none⟩) bs.length cap (J : Int) 1 _ hl ⟨by decide, by decide⟩).mono ?_; rintro ee w3 ⟨rfl, hb3⟩; rw [HEX.out]; have HI3 := Lib.hid (HI2.out.below hb3 hRs); have HH3 := Lib.hid (HH.out.below hb3 hs2); have HB3 := Lib.hid (HB2.out.trans (hb3.mono (by omega))); have HR3 := Lib.hid (HR2.out.below EByte.loc hb3 hB2); have hs3 := hb3.size; have f3 := (fun i => HH3.out.frozen i); have l3 : R + 1 < w3.heap.size := HH3.out.lt; obtain ⟨g0, g1, g2⟩ := HH3.out.cells3; clear r0 r1 r2 h0 h1 h2 fr fh hb3)
    have HB4 := Lib.hid (HB3.out.trans ((below1s w3 (R + 1) 2 (.int .i64 1)).mono (by omega)))
    have HI4 := Lib.hid (HI3.out.miss (R + 1) 2 (by omega) (.int .i64 1))
    have HH4 := Lib.hid (HH3.out.set 2 (.int .i64 1))
    have HR4 := Lib.hid (HR3.out.below EByte.loc (below1s w3 (R + 1) 2 (.int .i64 1)) (by omega))
    clear g0 g1 g2 f3 l3 HB3 HI3 HH3 HR3 HEX
    generalize w3.setCell ⟨R + 1, 2, none⟩ (.int .i64 1) = w4 at *
    have l4 : R + 1 < w4.heap.size := HH4.out.lt
    refine (impl_GetBigI bs (some ⟨b, o, none⟩) cap B J 1 1 rfl w4 HR4.out (by omega) (by decide) HPK.out hl).mono ?_
    rintro ee w5 ⟨rfl, hb5⟩
    rw [HXX.out]
    have HI5 := Lib.hid (HI4.out.below hb5 (by omega))
    have HH5 := Lib.hid (HH4.out.below hb5 l4)
    have HB5 := Lib.hid (HB4.out.trans (hb5.mono (by omega)))
    have l5 : R + 1 < w5.heap.size := HH5.out.lt
    clear HI4 HH4 HB4 HR4 hb5 l4 HR2 HI2 HH
    obtain ⟨v, hv⟩ : ∃ v, beN X = v := ⟨_, rfl⟩
    rw [hv] at HGX ⊢
    clear hv HXX
    by_cases hb : v ≤ 1000000000000000
    ·have HGE := Lib.hid (show G = ((m, v, 1), (E : Int), 0) from by rw [HGX.out, if_pos hb, HEE.out]; rfl)
     rw [if_pos hb, decide_eq_true hb]
     clear HGX hb
     have f5 := fun i => HH5.out.frozen i
     have fr := fun i => HI5.out.frozen i
     obtain ⟨g0, g1, g2⟩ := HH5.out.cells3
     obtain ⟨r0, r1, r2⟩ := HI5.out.cells3
     have lr5 : R < w5.heap.size := by omega
     go_upto_region 19 with (fail)
     have HI6 := Lib.hid (HI5.out.miss (R + 1) 1 (by omega) (.int .i64 v))
     have HH6 := Lib.hid (HH5.out.set 1 (.int .i64 v))
     have HB6 := Lib.hid (HB5.out.trans ((below1s w5 (R + 1) 1 (.int .i64 v)).mono (by omega)))
     clear f5 fr g0 g1 g2 r0 r1 r2 HI5 HH5 HB5 lr5 l5
     generalize w5.setCell ⟨R + 1, 1, none⟩ (.int .i64 v) = w6 at *
     obtain ⟨g0, g1, g2⟩ := HH6.out.cells3
     obtain ⟨r0, r1, r2⟩ := HI6.out.cells3
     have f6 := fun i => HH6.out.frozen i
     have fr := fun i => HI6.out.frozen i
     have l6 : R + 1 < w6.heap.size := HH6.out.lt
     have lr6 : R < w6.heap.size := by omega
     go_region
     go_wp2_with fail
     obtain ⟨e0, e1, e2⟩ := ((((HI6.out.set 0 (.int .i64 m)).set 1 (.int .i64 v)).set 2 (.int .i64 1)).agree (w' := ((((w6.setCell ⟨R, 0, none⟩ (.int .i64 m)).setCell ⟨R, 1, none⟩ (.int .i64 v)).setCell ⟨R, 2, none⟩ (.int .i64 1)).drew)) rfl).cells3
     refine bodyPost_ret (v := .tuple #[.agg (cH m v 1), .int .i64 (E : Int), .int .i64 0]) (by simp [results, Tryz.results102, go_sem, e0, e1, e2]) rfl ⟨by rw [HGE.out], ?_⟩
     exact hR ▸ (HB6.out.trans (below3s w6 R (.int .i64 m) (.int .i64 v) (.int .i64 1))).drew
    ·have HGE := Lib.hid (show G = ((0, 0, 0), 0, 2) from by rw [HGX.out, if_neg hb])
     rw [if_neg hb, decide_eq_false hb]
     clear HGX hb
     have fr := fun i => HI5.out.frozen i
     obtain ⟨r0, r1, r2⟩ := HI5.out.cells3
     have lr5 : R < w5.heap.size := by omega
     go_wp2_with fail
     obtain ⟨e0, e1, e2⟩ := (((HI5.out.set 0 (.int .i64 0)).set 1 (.int .i64 0)).set 2 (.int .i64 0)).cells3
     refine bodyPost_ret (v := .tuple #[.agg (cH 0 0 0), .int .i64 0, .int .i64 2]) (by simp [results, Tryz.results102, go_sem, e0, e1, e2]) rfl ⟨by rw [HGE.out], ?_⟩
     exact hR ▸ (HB5.out.trans (below3s _ R _ _ _))
   ·have HEX := Lib.hid (show decide (((0 : Int) ≤ 1 ∧ (1 : Int) ≤ bs.length) ∧ (0 ≤ (J : Int) ∧ (J : Int) ≤ (bs.length : Int) - 1)) = false from decide_eq_false (by omega))
    have HGE := Lib.hid (HG.out.symm.trans (HWB.out (by omega)))
    clear HW HWB HG hx
    go_wp2_with (go_at_call 161; refine (impl_exist (some ⟨b, o, none⟩) bs.length cap (J : Int) 1 _ hl ⟨by decide, by decide⟩).mono ?_; rintro ee w3 ⟨rfl, hb3⟩; rw [HEX.out]; have HI3 := Lib.hid (HI2.out.below hb3 hRs); have HB3 := Lib.hid (HB2.out.trans (hb3.mono (by omega))); have f3 := (fun i => HI3.out.frozen i); have l3 : R < w3.heap.size := HI3.out.lt; obtain ⟨g0, g1, g2⟩ := HI3.out.cells3; clear r0 r1 r2 h0 h1 h2 fr fh hb3)
    obtain ⟨e0, e1, e2⟩ := (((HI3.out.set 0 (.int .i64 0)).set 1 (.int .i64 0)).set 2 (.int .i64 0)).cells3
    refine bodyPost_ret (v := .tuple #[.agg (cH 0 0 0), .int .i64 0, .int .i64 1]) (by simp [results, Tryz.results102, go_sem, e0, e1, e2]) rfl ⟨by rw [HGE.out], ?_⟩
    exact hR ▸ (HB3.out.trans (below3s _ R _ _ _))
  ·have HW := Lib.hid (fun h => getH_wide HJ.out HMM.out HII.out (by decide) (show wideD 25 ≤ bs.length - (j + 1) from h))
   have HWB := Lib.hid (fun h => getH_bad HJ.out HII.out (by decide) (Or.inr (show bs.length - (j + 1) < wideD 25 from h)))
   rw [show wideD 25 = 2 from rfl, HJB.out, HDJ.out] at HW
   rw [show wideD 25 = 2 from rfl, HJB.out] at HWB
   have fr := fun i => HI2.out.frozen i
   have fh := fun i => HH.out.frozen i
   obtain ⟨r0, r1, r2⟩ := HI2.out.cells3
   obtain ⟨h0, h1, h2⟩ := HH.out.cells3
   clear i24 i31 i28 b31 hJ HII
   by_cases hx : 2 ≤ bs.length - J
   ·have HEX := Lib.hid (show decide (((0 : Int) ≤ 2 ∧ (2 : Int) ≤ bs.length) ∧ (0 ≤ (J : Int) ∧ (J : Int) ≤ (bs.length : Int) - 2)) = true from decide_eq_true (by omega))
    obtain ⟨X, hX⟩ : ∃ X, (bs.drop J).take 2 = X := ⟨_, rfl⟩
    have HGX := Lib.hid (HG.out.symm.trans (HW.out hx))
    rw [hX] at HGX
    have HXX := Lib.hid hX; clear hX HW HWB HG
    obtain ⟨E, hE⟩ : ∃ E, J + 2 = E := ⟨_, rfl⟩
    have hei : (J : Int) + 2 = (E : Int) := by omega
    have HEE := Lib.hid (show (j : Int) + ((2 + 1 : Nat) : Int) = (E : Int) from by omega)
    have HPK := Lib.hid (show J + 2 ≤ bs.length from by omega)
    clear hx hE
    go_wp2_with (go_at_call 161; refine (impl_exist (some ⟨b, o, none⟩) bs.length cap (J : Int) 2 _ hl ⟨by decide, by decide⟩).mono ?_; rintro ee w3 ⟨rfl, hb3⟩; rw [HEX.out]; have HI3 := Lib.hid (HI2.out.below hb3 hRs); have HH3 := Lib.hid (HH.out.below hb3 hs2); have HB3 := Lib.hid (HB2.out.trans (hb3.mono (by omega))); have HR3 := Lib.hid (HR2.out.below EByte.loc hb3 hB2); have hs3 := hb3.size; have f3 := (fun i => HH3.out.frozen i); have l3 : R + 1 < w3.heap.size := HH3.out.lt; obtain ⟨g0, g1, g2⟩ := HH3.out.cells3; clear r0 r1 r2 h0 h1 h2 fr fh hb3)
    have HB4 := Lib.hid (HB3.out.trans ((below1s w3 (R + 1) 2 (.int .i64 2)).mono (by omega)))
    have HI4 := Lib.hid (HI3.out.miss (R + 1) 2 (by omega) (.int .i64 2))
    have HH4 := Lib.hid (HH3.out.set 2 (.int .i64 2))
    have HR4 := Lib.hid (HR3.out.below EByte.loc (below1s w3 (R + 1) 2 (.int .i64 2)) (by omega))
    clear g0 g1 g2 f3 l3 HB3 HI3 HH3 HR3 HEX
    generalize w3.setCell ⟨R + 1, 2, none⟩ (.int .i64 2) = w4 at *
    have l4 : R + 1 < w4.heap.size := HH4.out.lt
    refine (impl_GetBigI bs (some ⟨b, o, none⟩) cap B J 2 2 rfl w4 HR4.out (by omega) (by decide) HPK.out hl).mono ?_
    rintro ee w5 ⟨rfl, hb5⟩
    rw [HXX.out]
    have HI5 := Lib.hid (HI4.out.below hb5 (by omega))
    have HH5 := Lib.hid (HH4.out.below hb5 l4)
    have HB5 := Lib.hid (HB4.out.trans (hb5.mono (by omega)))
    have l5 : R + 1 < w5.heap.size := HH5.out.lt
    clear HI4 HH4 HB4 HR4 hb5 l4 HR2 HI2 HH
    obtain ⟨v, hv⟩ : ∃ v, beN X = v := ⟨_, rfl⟩
    rw [hv] at HGX ⊢
    clear hv HXX
    by_cases hb : v ≤ 1000000000000000
    ·have HGE := Lib.hid (show G = ((m, v, 2), (E : Int), 0) from by rw [HGX.out, if_pos hb, HEE.out]; rfl)
     rw [if_pos hb, decide_eq_true hb]
     clear HGX hb
     have f5 := fun i => HH5.out.frozen i
     have fr := fun i => HI5.out.frozen i
     obtain ⟨g0, g1, g2⟩ := HH5.out.cells3
     obtain ⟨r0, r1, r2⟩ := HI5.out.cells3
     have lr5 : R < w5.heap.size := by omega
     go_upto_region 19 with (fail)
     have HI6 := Lib.hid (HI5.out.miss (R + 1) 1 (by omega) (.int .i64 v))
     have HH6 := Lib.hid (HH5.out.set 1 (.int .i64 v))
     have HB6 := Lib.hid (HB5.out.trans ((below1s w5 (R + 1) 1 (.int .i64 v)).mono (by omega)))
     clear f5 fr g0 g1 g2 r0 r1 r2 HI5 HH5 HB5 lr5 l5
     generalize w5.setCell ⟨R + 1, 1, none⟩ (.int .i64 v) = w6 at *
     obtain ⟨g0, g1, g2⟩ := HH6.out.cells3
     obtain ⟨r0, r1, r2⟩ := HI6.out.cells3
     have f6 := fun i => HH6.out.frozen i
     have fr := fun i => HI6.out.frozen i
     have l6 : R + 1 < w6.heap.size := HH6.out.lt
     have lr6 : R < w6.heap.size := by omega
     go_region
     go_wp2_with fail
     obtain ⟨e0, e1, e2⟩ := ((((HI6.out.set 0 (.int .i64 m)).set 1 (.int .i64 v)).set 2 (.int .i64 2)).agree (w' := ((((w6.setCell ⟨R, 0, none⟩ (.int .i64 m)).setCell ⟨R, 1, none⟩ (.int .i64 v)).setCell ⟨R, 2, none⟩ (.int .i64 2)).drew)) rfl).cells3
     refine bodyPost_ret (v := .tuple #[.agg (cH m v 2), .int .i64 (E : Int), .int .i64 0]) (by simp [results, Tryz.results102, go_sem, e0, e1, e2]) rfl ⟨by rw [HGE.out], ?_⟩
     exact hR ▸ (HB6.out.trans (below3s w6 R (.int .i64 m) (.int .i64 v) (.int .i64 2))).drew
    ·have HGE := Lib.hid (show G = ((0, 0, 0), 0, 2) from by rw [HGX.out, if_neg hb])
     rw [if_neg hb, decide_eq_false hb]
     clear HGX hb
     have fr := fun i => HI5.out.frozen i
     obtain ⟨r0, r1, r2⟩ := HI5.out.cells3
     have lr5 : R < w5.heap.size := by omega
     go_wp2_with fail
     obtain ⟨e0, e1, e2⟩ := (((HI5.out.set 0 (.int .i64 0)).set 1 (.int .i64 0)).set 2 (.int .i64 0)).cells3
     refine bodyPost_ret (v := .tuple #[.agg (cH 0 0 0), .int .i64 0, .int .i64 2]) (by simp [results, Tryz.results102, go_sem, e0, e1, e2]) rfl ⟨by rw [HGE.out], ?_⟩
     exact hR ▸ (HB5.out.trans (below3s _ R _ _ _))
   ·have HEX := Lib.hid (show decide (((0 : Int) ≤ 2 ∧ (2 : Int) ≤ bs.length) ∧ (0 ≤ (J : Int) ∧ (J : Int) ≤ (bs.length : Int) - 2)) = false from decide_eq_false (by omega))
    have HGE := Lib.hid (HG.out.symm.trans (HWB.out (by omega)))
    clear HW HWB HG hx
    go_wp2_with (go_at_call 161; refine (impl_exist (some ⟨b, o, none⟩) bs.length cap (J : Int) 2 _ hl ⟨by decide, by decide⟩).mono ?_; rintro ee w3 ⟨rfl, hb3⟩; rw [HEX.out]; have HI3 := Lib.hid (HI2.out.below hb3 hRs); have HB3 := Lib.hid (HB2.out.trans (hb3.mono (by omega))); have f3 := (fun i => HI3.out.frozen i); have l3 : R < w3.heap.size := HI3.out.lt; obtain ⟨g0, g1, g2⟩ := HI3.out.cells3; clear r0 r1 r2 h0 h1 h2 fr fh hb3)
    obtain ⟨e0, e1, e2⟩ := (((HI3.out.set 0 (.int .i64 0)).set 1 (.int .i64 0)).set 2 (.int .i64 0)).cells3
    refine bodyPost_ret (v := .tuple #[.agg (cH 0 0 0), .int .i64 0, .int .i64 1]) (by simp [results, Tryz.results102, go_sem, e0, e1, e2]) rfl ⟨by rw [HGE.out], ?_⟩
    exact hR ▸ (HB3.out.trans (below3s _ R _ _ _))
  ·have HW := Lib.hid (fun h => getH_wide HJ.out HMM.out HII.out (by decide) (show wideD 26 ≤ bs.length - (j + 1) from h))
   have HWB := Lib.hid (fun h => getH_bad HJ.out HII.out (by decide) (Or.inr (show bs.length - (j + 1) < wideD 26 from h)))
   rw [show wideD 26 = 4 from rfl, HJB.out, HDJ.out] at HW
   rw [show wideD 26 = 4 from rfl, HJB.out] at HWB
   have fr := fun i => HI2.out.frozen i
   have fh := fun i => HH.out.frozen i
   obtain ⟨r0, r1, r2⟩ := HI2.out.cells3
   obtain ⟨h0, h1, h2⟩ := HH.out.cells3
   clear i24 i31 i28 b31 hJ HII
   by_cases hx : 4 ≤ bs.length - J
   ·have HEX := Lib.hid (show decide (((0 : Int) ≤ 4 ∧ (4 : Int) ≤ bs.length) ∧ (0 ≤ (J : Int) ∧ (J : Int) ≤ (bs.length : Int) - 4)) = true from decide_eq_true (by omega))
    obtain ⟨X, hX⟩ : ∃ X, (bs.drop J).take 4 = X := ⟨_, rfl⟩
    have HGX := Lib.hid (HG.out.symm.trans (HW.out hx))
    rw [hX] at HGX
    have HXX := Lib.hid hX; clear hX HW HWB HG
    obtain ⟨E, hE⟩ : ∃ E, J + 4 = E := ⟨_, rfl⟩
    have hei : (J : Int) + 4 = (E : Int) := by omega
    have HEE := Lib.hid (show (j : Int) + ((4 + 1 : Nat) : Int) = (E : Int) from by omega)
    have HPK := Lib.hid (show J + 4 ≤ bs.length from by omega)
    clear hx hE
    go_wp2_with (go_at_call 161; refine (impl_exist (some ⟨b, o, none⟩) bs.length cap (J : Int) 4 _ hl ⟨by decide, by decide⟩).mono ?_; rintro ee w3 ⟨rfl, hb3⟩; rw [HEX.out]; have HI3 := Lib.hid (HI2.out.below hb3 hRs); have HH3 := Lib.hid (HH.out.below hb3 hs2); have HB3 := Lib.hid (HB2.out.trans (hb3.mono (by omega))); have HR3 := Lib.hid (HR2.out.below EByte.loc hb3 hB2); have hs3 := hb3.size; have f3 := (fun i => HH3.out.frozen i); have l3 : R + 1 < w3.heap.size := HH3.out.lt; obtain ⟨g0, g1, g2⟩ := HH3.out.cells3; clear r0 r1 r2 h0 h1 h2 fr fh hb3)
    have HB4 := Lib.hid (HB3.out.trans ((below1s w3 (R + 1) 2 (.int .i64 4)).mono (by omega)))
    have HI4 := Lib.hid (HI3.out.miss (R + 1) 2 (by omega) (.int .i64 4))
    have HH4 := Lib.hid (HH3.out.set 2 (.int .i64 4))
    have HR4 := Lib.hid (HR3.out.below EByte.loc (below1s w3 (R + 1) 2 (.int .i64 4)) (by omega))
    clear g0 g1 g2 f3 l3 HB3 HI3 HH3 HR3 HEX
    generalize w3.setCell ⟨R + 1, 2, none⟩ (.int .i64 4) = w4 at *
    have l4 : R + 1 < w4.heap.size := HH4.out.lt
    refine (impl_GetBigI bs (some ⟨b, o, none⟩) cap B J 4 4 rfl w4 HR4.out (by omega) (by decide) HPK.out hl).mono ?_
    rintro ee w5 ⟨rfl, hb5⟩
    rw [HXX.out]
    have HI5 := Lib.hid (HI4.out.below hb5 (by omega))
    have HH5 := Lib.hid (HH4.out.below hb5 l4)
    have HB5 := Lib.hid (HB4.out.trans (hb5.mono (by omega)))
    have l5 : R + 1 < w5.heap.size := HH5.out.lt
    clear HI4 HH4 HB4 HR4 hb5 l4 HR2 HI2 HH
    obtain ⟨v, hv⟩ : ∃ v, beN X = v := ⟨_, rfl⟩
    rw [hv] at HGX ⊢
    clear hv HXX
    by_cases hb : v ≤ 1000000000000000
    ·have HGE := Lib.hid (show G = ((m, v, 4), (E : Int), 0) from by rw [HGX.out, if_pos hb, HEE.out]; rfl)
     rw [if_pos hb, decide_eq_true hb]
     clear HGX hb
     have f5 := fun i => HH5.out.frozen i
     have fr := fun i => HI5.out.frozen i
     obtain ⟨g0, g1, g2⟩ := HH5.out.cells3
     obtain ⟨r0, r1, r2⟩ := HI5.out.cells3
     have lr5 : R < w5.heap.size := by omega
     go_upto_region 19 with (fail)
     have HI6 := Lib.hid (HI5.out.miss (R + 1) 1 (by omega) (.int .i64 v))
     have HH6 := Lib.hid (HH5.out.set 1 (.int .i64 v))
     have HB6 := Lib.hid (HB5.out.trans ((below1s w5 (R + 1) 1 (.int .i64 v)).mono (by omega)))
     clear f5 fr g0 g1 g2 r0 r1 r2 HI5 HH5 HB5 lr5 l5
     generalize w5.setCell ⟨R + 1, 1, none⟩ (.int .i64 v) = w6 at *
     obtain ⟨g0, g1, g2⟩ := HH6.out.cells3
     obtain ⟨r0, r1, r2⟩ := HI6.out.cells3
     have f6 := fun i => HH6.out.frozen i
     have fr := fun i => HI6.out.frozen i
     have l6 : R + 1 < w6.heap.size := HH6.out.lt
     have lr6 : R < w6.heap.size := by omega
     go_region
     go_wp2_with fail
     obtain ⟨e0, e1, e2⟩ := ((((HI6.out.set 0 (.int .i64 m)).set 1 (.int .i64 v)).set 2 (.int .i64 4)).agree (w' := ((((w6.setCell ⟨R, 0, none⟩ (.int .i64 m)).setCell ⟨R, 1, none⟩ (.int .i64 v)).setCell ⟨R, 2, none⟩ (.int .i64 4)).drew)) rfl).cells3
     refine bodyPost_ret (v := .tuple #[.agg (cH m v 4), .int .i64 (E : Int), .int .i64 0]) (by simp [results, Tryz.results102, go_sem, e0, e1, e2]) rfl ⟨by rw [HGE.out], ?_⟩
     exact hR ▸ (HB6.out.trans (below3s w6 R (.int .i64 m) (.int .i64 v) (.int .i64 4))).drew
    ·have HGE := Lib.hid (show G = ((0, 0, 0), 0, 2) from by rw [HGX.out, if_neg hb])
     rw [if_neg hb, decide_eq_false hb]
     clear HGX hb
     have fr := fun i => HI5.out.frozen i
     obtain ⟨r0, r1, r2⟩ := HI5.out.cells3
     have lr5 : R < w5.heap.size := by omega
     go_wp2_with fail
     obtain ⟨e0, e1, e2⟩ := (((HI5.out.set 0 (.int .i64 0)).set 1 (.int .i64 0)).set 2 (.int .i64 0)).cells3
     refine bodyPost_ret (v := .tuple #[.agg (cH 0 0 0), .int .i64 0, .int .i64 2]) (by simp [results, Tryz.results102, go_sem, e0, e1, e2]) rfl ⟨by rw [HGE.out], ?_⟩
     exact hR ▸ (HB5.out.trans (below3s _ R _ _ _))
   ·have HEX := Lib.hid (show decide (((0 : Int) ≤ 4 ∧ (4 : Int) ≤ bs.length) ∧ (0 ≤ (J : Int) ∧ (J : Int) ≤ (bs.length : Int) - 4)) = false from decide_eq_false (by omega))
    have HGE := Lib.hid (HG.out.symm.trans (HWB.out (by omega)))
    clear HW HWB HG hx
    go_wp2_with (go_at_call 161; refine (impl_exist (some ⟨b, o, none⟩) bs.length cap (J : Int) 4 _ hl ⟨by decide, by decide⟩).mono ?_; rintro ee w3 ⟨rfl, hb3⟩; rw [HEX.out]; have HI3 := Lib.hid (HI2.out.below hb3 hRs); have HB3 := Lib.hid (HB2.out.trans (hb3.mono (by omega))); have f3 := (fun i => HI3.out.frozen i); have l3 : R < w3.heap.size := HI3.out.lt; obtain ⟨g0, g1, g2⟩ := HI3.out.cells3; clear r0 r1 r2 h0 h1 h2 fr fh hb3)
    obtain ⟨e0, e1, e2⟩ := (((HI3.out.set 0 (.int .i64 0)).set 1 (.int .i64 0)).set 2 (.int .i64 0)).cells3
    refine bodyPost_ret (v := .tuple #[.agg (cH 0 0 0), .int .i64 0, .int .i64 1]) (by simp [results, Tryz.results102, go_sem, e0, e1, e2]) rfl ⟨by rw [HGE.out], ?_⟩
    exact hR ▸ (HB3.out.trans (below3s _ R _ _ _))
  ·have HW := Lib.hid (fun h => getH_wide HJ.out HMM.out HII.out (by decide) (show wideD 27 ≤ bs.length - (j + 1) from h))
   have HWB := Lib.hid (fun h => getH_bad HJ.out HII.out (by decide) (Or.inr (show bs.length - (j + 1) < wideD 27 from h)))
   rw [show wideD 27 = 8 from rfl, HJB.out, HDJ.out] at HW
   rw [show wideD 27 = 8 from rfl, HJB.out] at HWB
   have fr := fun i => HI2.out.frozen i
   have fh := fun i => HH.out.frozen i
   obtain ⟨r0, r1, r2⟩ := HI2.out.cells3
   obtain ⟨h0, h1, h2⟩ := HH.out.cells3
   clear i24 i31 i28 b31 hJ HII
   by_cases hx : 8 ≤ bs.length - J
   ·have HEX := Lib.hid (show decide (((0 : Int) ≤ 8 ∧ (8 : Int) ≤ bs.length) ∧ (0 ≤ (J : Int) ∧ (J : Int) ≤ (bs.length : Int) - 8)) = true from decide_eq_true (by omega))
    obtain ⟨X, hX⟩ : ∃ X, (bs.drop J).take 8 = X := ⟨_, rfl⟩
    have HGX := Lib.hid (HG.out.symm.trans (HW.out hx))
    rw [hX] at HGX
    have HXX := Lib.hid hX; clear hX HW HWB HG
    obtain ⟨E, hE⟩ : ∃ E, J + 8 = E := ⟨_, rfl⟩
    have hei : (J : Int) + 8 = (E : Int) := by omega
    have HEE := Lib.hid (show (j : Int) + ((8 + 1 : Nat) : Int) = (E : Int) from by omega)
    have HPK := Lib.hid (show J + 8 ≤ bs.length from by omega)
    clear hx hE
    go_wp2_with (go_at_call 161; refine (impl_exist (some ⟨b, o, none⟩) bs.length cap (J : Int) 8 _ hl ⟨by decide, by decide⟩).mono ?_; rintro ee w3 ⟨rfl, hb3⟩; rw [HEX.out]; have HI3 := Lib.hid (HI2.out.below hb3 hRs); have HH3 := Lib.hid (HH.out.below hb3 hs2); have HB3 := Lib.hid (HB2.out.trans (hb3.mono (by omega))); have HR3 := Lib.hid (HR2.out.below EByte.loc hb3 hB2); have hs3 := hb3.size; have f3 := (fun i => HH3.out.frozen i); have l3 : R + 1 < w3.heap.size := HH3.out.lt; obtain ⟨g0, g1, g2⟩ := HH3.out.cells3; clear r0 r1 r2 h0 h1 h2 fr fh hb3)
    have HB4 := Lib.hid (HB3.out.trans ((below1s w3 (R + 1) 2 (.int .i64 8)).mono (by omega)))
    have HI4 := Lib.hid (HI3.out.miss (R + 1) 2 (by omega) (.int .i64 8))
    have HH4 := Lib.hid (HH3.out.set 2 (.int .i64 8))
    have HR4 := Lib.hid (HR3.out.below EByte.loc (below1s w3 (R + 1) 2 (.int .i64 8)) (by omega))
    clear g0 g1 g2 f3 l3 HB3 HI3 HH3 HR3 HEX
    generalize w3.setCell ⟨R + 1, 2, none⟩ (.int .i64 8) = w4 at *
    have l4 : R + 1 < w4.heap.size := HH4.out.lt
    refine (impl_GetBigI bs (some ⟨b, o, none⟩) cap B J 8 8 rfl w4 HR4.out (by omega) (by decide) HPK.out hl).mono ?_
    rintro ee w5 ⟨rfl, hb5⟩
    rw [HXX.out]
    have HI5 := Lib.hid (HI4.out.below hb5 (by omega))
    have HH5 := Lib.hid (HH4.out.below hb5 l4)
    have HB5 := Lib.hid (HB4.out.trans (hb5.mono (by omega)))
    have l5 : R + 1 < w5.heap.size := HH5.out.lt
    clear HI4 HH4 HB4 HR4 hb5 l4 HR2 HI2 HH
    obtain ⟨v, hv⟩ : ∃ v, beN X = v := ⟨_, rfl⟩
    rw [hv] at HGX ⊢
    clear hv HXX
    by_cases hb : v ≤ 1000000000000000
    ·have HGE := Lib.hid (show G = ((m, v, 8), (E : Int), 0) from by rw [HGX.out, if_pos hb, HEE.out]; rfl)
     rw [if_pos hb, decide_eq_true hb]
     clear HGX hb
     have f5 := fun i => HH5.out.frozen i
     have fr := fun i => HI5.out.frozen i
     obtain ⟨g0, g1, g2⟩ := HH5.out.cells3
     obtain ⟨r0, r1, r2⟩ := HI5.out.cells3
     have lr5 : R < w5.heap.size := by omega
     go_upto_region 19 with (fail)
     have HI6 := Lib.hid (HI5.out.miss (R + 1) 1 (by omega) (.int .i64 v))
     have HH6 := Lib.hid (HH5.out.set 1 (.int .i64 v))
     have HB6 := Lib.hid (HB5.out.trans ((below1s w5 (R + 1) 1 (.int .i64 v)).mono (by omega)))
     clear f5 fr g0 g1 g2 r0 r1 r2 HI5 HH5 HB5 lr5 l5
     generalize w5.setCell ⟨R + 1, 1, none⟩ (.int .i64 v) = w6 at *
     obtain ⟨g0, g1, g2⟩ := HH6.out.cells3
     obtain ⟨r0, r1, r2⟩ := HI6.out.cells3
     have f6 := fun i => HH6.out.frozen i
     have fr := fun i => HI6.out.frozen i
     have l6 : R + 1 < w6.heap.size := HH6.out.lt
     have lr6 : R < w6.heap.size := by omega
     go_region
     go_wp2_with fail
     obtain ⟨e0, e1, e2⟩ := ((((HI6.out.set 0 (.int .i64 m)).set 1 (.int .i64 v)).set 2 (.int .i64 8)).agree (w' := ((((w6.setCell ⟨R, 0, none⟩ (.int .i64 m)).setCell ⟨R, 1, none⟩ (.int .i64 v)).setCell ⟨R, 2, none⟩ (.int .i64 8)).drew)) rfl).cells3
     refine bodyPost_ret (v := .tuple #[.agg (cH m v 8), .int .i64 (E : Int), .int .i64 0]) (by simp [results, Tryz.results102, go_sem, e0, e1, e2]) rfl ⟨by rw [HGE.out], ?_⟩
     exact hR ▸ (HB6.out.trans (below3s w6 R (.int .i64 m) (.int .i64 v) (.int .i64 8))).drew
    ·have HGE := Lib.hid (show G = ((0, 0, 0), 0, 2) from by rw [HGX.out, if_neg hb])
     rw [if_neg hb, decide_eq_false hb]
     clear HGX hb
     have fr := fun i => HI5.out.frozen i
     obtain ⟨r0, r1, r2⟩ := HI5.out.cells3
     have lr5 : R < w5.heap.size := by omega
     go_wp2_with fail
     obtain ⟨e0, e1, e2⟩ := (((HI5.out.set 0 (.int .i64 0)).set 1 (.int .i64 0)).set 2 (.int .i64 0)).cells3
     refine bodyPost_ret (v := .tuple #[.agg (cH 0 0 0), .int .i64 0, .int .i64 2]) (by simp [results, Tryz.results102, go_sem, e0, e1, e2]) rfl ⟨by rw [HGE.out], ?_⟩
     exact hR ▸ (HB5.out.trans (below3s _ R _ _ _))
   ·have HEX := Lib.hid (show decide (((0 : Int) ≤ 8 ∧ (8 : Int) ≤ bs.length) ∧ (0 ≤ (J : Int) ∧ (J : Int) ≤ (bs.length : Int) - 8)) = false from decide_eq_false (by omega))
    have HGE := Lib.hid (HG.out.symm.trans (HWB.out (by omega)))
    clear HW HWB HG hx
    go_wp2_with (go_at_call 161; refine (impl_exist (some ⟨b, o, none⟩) bs.length cap (J : Int) 8 _ hl ⟨by decide, by decide⟩).mono ?_; rintro ee w3 ⟨rfl, hb3⟩; rw [HEX.out]; have HI3 := Lib.hid (HI2.out.below hb3 hRs); have HB3 := Lib.hid (HB2.out.trans (hb3.mono (by omega))); have f3 := (fun i => HI3.out.frozen i); have l3 : R < w3.heap.size := HI3.out.lt; obtain ⟨g0, g1, g2⟩ := HI3.out.cells3; clear r0 r1 r2 h0 h1 h2 fr fh hb3)
    obtain ⟨e0, e1, e2⟩ := (((HI3.out.set 0 (.int .i64 0)).set 1 (.int .i64 0)).set 2 (.int .i64 0)).cells3
    refine bodyPost_ret (v := .tuple #[.agg (cH 0 0 0), .int .i64 0, .int .i64 1]) (by simp [results, Tryz.results102, go_sem, e0, e1, e2]) rfl ⟨by rw [HGE.out], ?_⟩
    exact hR ▸ (HB3.out.trans (below3s _ R _ _ _))
end Go.Proofs.YtggdenkmohnijaaGreatDoor
