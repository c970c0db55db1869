/- Texts of this proof, merged: MarkM, PackK, PackI, FitsT, TightP. No condition beyond what each theorem states. -/
import Derived.Test.YtohfljaaaojjmaaGreatDoorRows
import Derived.WalkKit
import Derived.ProofKit
import Derived.OpenShut
import Derived.Handy
import Derived.Lib.Hide
import Derived.Lib.SmallJoins
import Derived.Deep.RegionHeld3
import Derived.Deep.QuietTactic
import Derived.BigQuiet
import Derived.Laws.Bits64
import Derived.Laws.Bits64b
import Derived.Deep.CutBlock
import Derived.Deep.DeepCutAuto
import Derived.Test.YtohfljaaaojjmaaGreatDoorZK1
import Derived.Test.YtohfljaaaojjmaaGreatDoorZK2
import Derived.Test.YtohfljaaaojjmaaGreatDoorZK5
import Derived.Test.YtohfljaaaojjmaaGreatDoorZK6
import Derived.Test.YtohfljaaaojjmaaGreatDoorZK3
import Derived.Test.YtohfljaaaojjmaaGreatDoorZK4
import Derived.Test.YtohfljaaaojjmaaGreatDoorZK7
import Derived.Test.YtohfljaaaojjmaaGreatDoorZK9
import Derived.Test.YtohfljaaaojjmaaGreatDoorZK10
import Derived.Test.YtohfljaaaojjmaaGreatDoorZK11
import Derived.Lib.AppendStr
import Derived.Lib.AppendZeros
import Derived.Deep.AppendLies
import Derived.Deep.RegionLaw
import Derived.Test.YtohfljaaaojjmaaGreatDoorShelf
set_option linter.unusedSimpArgs false
set_option linter.unnecessarySimpa false
namespace Go.Proofs.YtohfljaaaojjmaaGreatDoor
open Go.ChangeShapes Go.WideShapes Go.ChangeAt Go.RowKit Go.Joins
set_option linter.unusedVariables false
set_option maxRecDepth 100000
set_option maxHeartbeats 8000000 in
theorem spec_PutMark (b : List Int) (k n : Int) (a : Option Addr) (cap B : Nat) (w : World) (hr : Rd EByte 1 w B a cap b) (hn : I64 n) (hz : b.length ≤ 1000000000) (hB : B ≤ w.heap.size) :
    Calls Tryz.prog 83 #[.slice a b.length cap, .agg (cM k n)] w fun e w' => ∃ a' cap', e = .returned (.slice a' (b ++ markL k n).length cap') ∧ AppL EByte 1 5 w' w.heap.size a' cap' (b ++ markL k n) [] ∧ Below w.heap.size w w' := by
  have q0 := Is.new w (cM k n) 65
  have hb0 := below1 w (.cells (cM k n) 65)
  obtain ⟨a1, c1, w1, hrun, happ, hb1⟩ := copyB (w.alloc (.cells (cM k n) 65)) b a cap B (hr.below EByte.loc hb0 hB) (by simp; omega) (by omega)
  have lg : w.heap.size < (w.alloc (.cells (cM k n) 65)).heap.size := by simp
  have q1 := q0.below hb1 lg
  have HA1 : Hid (AppL EByte 1 5 w1 (w.heap.size + 1) a1 c1 b []) := Lib.hid (by rw [size_alloc] at happ; exact happ)
  have HB1 := Lib.hid (hb0.trans (hb1.mono (by omega)))
  have hs1 := HB1.out.size
  obtain ⟨c10, c11⟩ := q1.cells2
  have lg1 : w.heap.size < w1.heap.size := q1.lt
  have Q1 := Lib.hid q1
  obtain ⟨bb, hbb⟩ : ∃ r, markOkD k n = r := ⟨_, rfl⟩
  have HBB := Lib.hid hbb
  have HN := Lib.hid hn
  have HMK := Lib.hid (show markL k n = if markOkD k n = false then [] else if k = 1 then [192] else if k = 2 then [194 + n] else if k = 3 then putIntL n else if k = 4 then 202 :: bigL n 4 else if k = 5 then [212, 1, n] else if k = 7 then putManyL n 32 160 217 218 else if k = 8 then putManyL n 0 0 196 197 else if k = 9 then putManyL n 16 144 0 220 else putManyL n 16 128 0 222 from rfl)
  have HOK := Lib.hid (show markOkD k n = if k = 1 then decide (n = 0) else if k = 2 then decide (0 ≤ n ∧ n ≤ 1) else if k = 3 then decide (-1000000000000000 ≤ n ∧ n ≤ 1000000000000000) else if k = 4 then ((bitsFltD n).2 && decide (fltBitsD (bitsFltD n).1.1 (bitsFltD n).1.2 = n)) else if k = 5 then decide (0 ≤ n ∧ n ≤ 2) else if k = 7 ∨ k = 8 ∨ k = 9 ∨ k = 10 then decide (0 ≤ n ∧ n ≤ 65535) else false from rfl)
  rw [hbb] at HMK HOK
  clear hbb happ hb1 hb0 q0 q1 hr hn lg
  go_enter Tryz.func83, Tryz.ntmps83
  rw [size_alloc] at hrun
  go_upto_region 2 with (at_builtin; refine Lib.wpList_append_run _ rfl _ _ _ _ rfl _ _ rfl rfl _ _ hrun ?_)
  clear hrun
  go_wp2_with fail
  refine (spec_MarkOk k n w1 HN.out).mono ?_
  rintro ee w2 ⟨rfl, hb2⟩
  rw [HBB.out]
  have q2 := Q1.out.below hb2 lg1
  obtain ⟨d0, d1⟩ := q2.cells2
  have lg2 : w.heap.size < w2.heap.size := q2.lt
  have HA2 := Lib.hid (HA1.out.agree EByte.elem (fun f hf => hb2.block f hf) (by omega))
  have HB2 := Lib.hid (HB1.out.trans (hb2.mono hs1))
  have hs2 := HB2.out.size
  have hlo2 : w.heap.size + 1 ≤ w2.heap.size := by omega
  have Q2 := Lib.hid q2
  clear c10 c11 hb2 q2
  cases bb with
  | false =>
    have HE := Lib.hid (show b ++ markL k n = b from by rw [HMK.out, if_pos rfl, List.append_nil])
    go_wp2_with fail
    go_ret
    exact ⟨a1, c1, by rw [HE.out]; rfl, by rw [HE.out]; exact HA2.out.less (by omega), HB2.out⟩
  | true =>
    rw [if_neg (by simp)] at HMK
    by_cases h1 : k = 1
    · subst h1
      have HE := Lib.hid (show markL 1 n = [192] from by rw [HMK.out, if_pos rfl])
      have HU : Hid (∀ v ∈ [(192 : Int)], U8 v) := Lib.hid (by intro v hv; simp only [List.mem_cons, List.not_mem_nil, or_false] at hv; subst hv; (unfold U8; omega))
      go_wp2_with (at_builtin; refine wpList_bytes rfl _ _ 22 rfl Tryz.underlying22 info_Byte2 (w.heap.size + 1) a1 _ c1 b rfl rfl HA2.out hlo2 [192] _ 1 1 rfl (by rfl) rfl (by first | rfl | simp []) HU.out (by simp) (by simp; omega) ?_; intro a5 c5 w5 happ5 hb5)
      go_ret
      exact ⟨a5, c5, ret_sl (by rw [HE.out]; first | done | rfl | (simp [bigL_len]; done) | (simp [bigL_len]; omega)), by rw [HE.out]; exact happ5.less (by omega), HB2.out.trans (hb5.mono (by omega))⟩
    by_cases h2 : k = 2
    · subst h2
      have HE := Lib.hid (show markL 2 n = [194 + n] from by rw [HMK.out, if_neg (by omega), if_pos rfl])
      have hn2 : 0 ≤ n ∧ n ≤ 1 := by have h := HOK.out; rw [if_neg (by omega), if_pos rfl] at h; exact of_decide_eq_true h.symm
      obtain ⟨hn3, hn4⟩ := hn2
      have hwu : IntKind.u8.wrap (194 + n) = 194 + n := by rw [IntKind.wrap_u8]; omega
      have HU : Hid (∀ v ∈ [(194 + n : Int)], U8 v) := Lib.hid (by intro v hv; simp only [List.mem_cons, List.not_mem_nil, or_false] at hv; subst hv; (unfold U8; omega))
      go_wp2_with (at_builtin; refine wpList_bytes rfl _ _ 22 rfl Tryz.underlying22 info_Byte2 (w.heap.size + 1) a1 _ c1 b rfl rfl HA2.out hlo2 [194 + n] _ 1 1 rfl (by rfl) rfl (by first | rfl | simp [hwu]) HU.out (by simp) (by simp; omega) ?_; intro a5 c5 w5 happ5 hb5)
      go_ret
      exact ⟨a5, c5, ret_sl (by rw [HE.out]; first | done | rfl | (simp [bigL_len]; done) | (simp [bigL_len]; omega)), by rw [HE.out]; exact happ5.less (by omega), HB2.out.trans (hb5.mono (by omega))⟩
    by_cases h3 : k = 3
    · subst h3
      have HE := Lib.hid (show markL 3 n = putIntL n from by rw [HMK.out, if_neg (by omega), if_neg (by omega), if_pos rfl])
      go_wp2_with fail
      refine (spec_l15Int b n a1 c1 (w.heap.size + 1) w2 HA2.out hlo2 (by omega) HN.out).mono ?_
      rintro e w5 ⟨a5, c5, rfl, happ5, hb5⟩
      go_wp2_with fail
      go_ret
      exact ⟨a5, c5, ret_sl (by rw [HE.out]; first | done | rfl | (simp [bigL_len]; done) | (simp [bigL_len]; omega)), by rw [HE.out]; exact happ5.less (by omega), HB2.out.trans (hb5.mono (by omega))⟩
    by_cases h4 : k = 4
    · subst h4
      have HE := Lib.hid (show markL 4 n = 202 :: bigL n 4 from by rw [HMK.out, if_neg (by omega), if_neg (by omega), if_neg (by omega), if_pos rfl])
      have HU : Hid (∀ v ∈ [(202 : Int)], U8 v) := Lib.hid (by intro v hv; simp only [List.mem_cons, List.not_mem_nil, or_false] at hv; subst hv; (unfold U8; omega))
      have hfn : 0 ≤ n ∧ n ≤ 33554431 := by
        have h := HOK.out
        rw [if_neg (by omega), if_neg (by omega), if_neg (by omega), if_pos rfl] at h
        have h2 := h.symm
        simp only [Bool.and_eq_true, decide_eq_true_eq] at h2
        have h3 := fltBitsD_in (bitsFltD n).1.1 (bitsFltD n).1.2
        have h4 : fltBitsD (bitsFltD n).1.1 (bitsFltD n).1.2 ≠ -1 := by
          intro h5
          have h6 := h2.2
          rw [h5] at h6
          have h7 : bitsFltD n = ((0, 0), false) := if_neg (by omega)
          rw [h7] at h2
          exact absurd h2.1 (by simp)
        omega
      obtain ⟨hf0, hf1⟩ := hfn
      go_wp2_with fail
      refine wp_region_held_drew (S := fun w' => (∀ b o, b < w.heap.size + 1 → w'.cell? ⟨b, o, none⟩ = w2.cell? ⟨b, o, none⟩) ∧ Below (w.heap.size + 1) w2 w') (by kernel_rfl) (by first | exact ⟨fun _ _ _ => rfl, (Below.refl _ _).drew⟩ | exact keep_step (by assumption) (Below.drew (Below.refl _ _)) (Nat.le_refl _) | exact keep_step (by assumption) (by assumption) (by first | omega | ((try simp only [World.size_drew, size_alloc]); omega) | (have := (‹(_ ∧ Below (w.heap.size + 1) w2 _)›).2.size; (try simp only [World.size_drew, size_alloc] at this ⊢); omega))) (fun hHeld => ?_)
      refine wpAnyH_take (i := 0) (oi := ⟨some 37, _, _, _, _, _⟩) (v := ?_) rfl (by kernel_rfl) (by kernel_rfl) (by kernel_rfl) (fun _ _ _ h => h) (Or.inl ⟨by rfl, ?_⟩) (by assumption) ?_
      rotate_left 1
      · (intro w hSw; (try dsimp only at hSw); go_simp; try (with_reducible rfl))
      try simp only [Act.put, List.setIfInBounds_toArray, List.set_cons_zero, List.set_cons_succ]
      refine wpAnyH_take (i := 3) (oi := ⟨some 40, _, _, _, _, _⟩) (v := ?_) rfl (by kernel_rfl) (by kernel_rfl) (by kernel_rfl) (fun _ _ _ h => h) (Or.inl ⟨by rfl, ?_⟩) (by assumption) ?_
      rotate_left 1
      · (intro w hSw; (try dsimp only at hSw); go_simp; try (with_reducible rfl))
      try simp only [Act.put, List.setIfInBounds_toArray, List.set_cons_zero, List.set_cons_succ]
      refine wpAnyH_take (i := 4) (oi := ⟨some 41, _, _, _, _, _⟩) (v := ?_) rfl (by kernel_rfl) (by kernel_rfl) (by kernel_rfl) (fun _ _ _ h => h) (Or.inl ⟨by rfl, ?_⟩) (by assumption) ?_
      rotate_left 1
      · (intro w hSw; (try dsimp only at hSw); go_simp; try (with_reducible rfl))
      try simp only [Act.put, List.setIfInBounds_toArray, List.set_cons_zero, List.set_cons_succ]
      refine wpAnyH_ready (rs := [1]) (by kernel_rfl) (by simp) ?_
      refine AllReadyH.cons (o := ⟨some 38, _, _, _, _, _⟩) rfl (fun K hK => ?_) AllReadyH.nil
      go_simp
      go_wp2_with fail
      refine hK.out _ _ (by first | (with_reducible exact keep_step (by assumption) (below1 _ _) (by first | omega | ((try simp only [World.size_drew, size_alloc]); omega) | (have := (‹(_ ∧ Below (w.heap.size + 1) w2 _)›).2.size; (try simp only [World.size_drew, size_alloc] at this ⊢); omega))) | (exact keep_step (by assumption) (below1 _ _) (by first | omega | ((try simp only [World.size_drew, size_alloc]); omega) | (have := (‹(_ ∧ Below (w.heap.size + 1) w2 _)›).2.size; (try simp only [World.size_drew, size_alloc] at this ⊢); omega)))) (fun hHeld => ?_)
      clear hK K
      try simp only [Act.put, List.setIfInBounds_toArray, List.set_cons_zero, List.set_cons_succ]
      refine wpAnyH_ready (rs := [2]) (by kernel_rfl) (by simp) ?_
      refine AllReadyH.cons (o := ⟨some 39, _, _, _, _, _⟩) rfl (fun K hK => ?_) AllReadyH.nil
      focus ((first | (go_at_call 111; refine (spec_PutBigL _ (b ++ [202]) n 4 a4 c4 w4.heap.size _ (by simp) (HR4.out) (by unfold fitW; omega) (by omega) (by simp; omega) (by first | exact Nat.le_refl _ | (simp only [World.size_drew]; exact Nat.le_refl _))).mono ?_; rintro e w6 ⟨a6, c6, rfl, happ6, hb6⟩) | (refine step_appLX EByte.elem rfl _ _ 22 rfl (.int .u8 0) 1 Tryz.underlying22 info_Byte2 rfl (w.heap.size + 1) a1 c1 b [] rfl (by first | exact HA2.out.agree EByte.elem (fun f hf => (below1 _ _).block f hf) hlo2) (by have := (‹_ ∧ Below (w.heap.size + 1) w2 _›).2.size; first | omega | (simp only [World.size_drew, size_alloc] at this ⊢; omega)) _ 0 1 1 [202] [] rfl rfl ⟨[], [], rfl, ⟨rfl, (Is.new _ _ _).cell 0 rfl, HU.out _ (by simp)⟩, rfl⟩ (by simp) (by omega) (by unfold maxLen; omega) (by omega) ?_; intro a4 c4 w4 happ4 hb4 hout4; have HR4 := Lib.hid (happ4.rd (show w.heap.size + 1 ≤ _ by have := hb4.size; first | omega | (simp only [World.size_drew, size_alloc] at this; omega))); have HB4 := Lib.hid (show Below (w.heap.size + 1) w2 w4 from by first | exact ((below1 w2 _).mono (by omega)).trans hb4 | exact (((below1 w2 (.cells #[.int .u8 202] 5)).mono (by omega)).drew).trans hb4))); refine hK.out _ _ (by first | (with_reducible exact keep_step (by assumption) (by assumption) (by first | omega | ((try simp only [World.size_drew, size_alloc]); omega) | (have := (‹(_ ∧ Below (w.heap.size + 1) w2 _)›).2.size; (try simp only [World.size_drew, size_alloc] at this ⊢); omega))) | first | exact ⟨fun _ _ _ => rfl, (Below.refl _ _).drew⟩ | exact keep_step (by assumption) (Below.drew (Below.refl _ _)) (Nat.le_refl _) | exact keep_step (by assumption) (by assumption) (by first | omega | ((try simp only [World.size_drew, size_alloc]); omega) | (have := (‹(_ ∧ Below (w.heap.size + 1) w2 _)›).2.size; (try simp only [World.size_drew, size_alloc] at this ⊢); omega))) (fun hHeld => ?_); clear hK K; try simp only [Act.put, List.setIfInBounds_toArray, List.set_cons_zero, List.set_cons_succ])
      refine wpAnyH_ready (rs := [5]) (by kernel_rfl) (by simp) ?_
      refine AllReadyH.cons (o := ⟨some 42, _, _, _, _, _⟩) rfl (fun K hK => ?_) AllReadyH.nil
      focus (go_simp; (first | (go_at_call 111; refine (spec_PutBigL _ (b ++ [202]) n 4 a4 c4 w4.heap.size _ (by simp) (HR4.out) (by unfold fitW; omega) (by omega) (by simp; omega) (by first | exact Nat.le_refl _ | (simp only [World.size_drew]; exact Nat.le_refl _))).mono ?_; rintro e w6 ⟨a6, c6, rfl, happ6, hb6⟩) | (refine step_appLX EByte.elem rfl _ _ 22 rfl (.int .u8 0) 1 Tryz.underlying22 info_Byte2 rfl (w.heap.size + 1) a1 c1 b [] rfl (by first | exact HA2.out.agree EByte.elem (fun f hf => (below1 _ _).block f hf) hlo2) (by have := (‹_ ∧ Below (w.heap.size + 1) w2 _›).2.size; first | omega | (simp only [World.size_drew, size_alloc] at this ⊢; omega)) _ 0 1 1 [202] [] rfl rfl ⟨[], [], rfl, ⟨rfl, (Is.new _ _ _).cell 0 rfl, HU.out _ (by simp)⟩, rfl⟩ (by simp) (by omega) (by unfold maxLen; omega) (by omega) ?_; intro a4 c4 w4 happ4 hb4 hout4; have HR4 := Lib.hid (happ4.rd (show w.heap.size + 1 ≤ _ by have := hb4.size; first | omega | (simp only [World.size_drew, size_alloc] at this; omega))); have HB4 := Lib.hid (show Below (w.heap.size + 1) w2 w4 from by first | exact ((below1 w2 _).mono (by omega)).trans hb4 | exact (((below1 w2 (.cells #[.int .u8 202] 5)).mono (by omega)).drew).trans hb4))); go_wp2_with fail; refine hK.out _ _ (by first | exact ⟨fun _ _ _ => rfl, (Below.refl _ _).drew⟩ | exact keep_step (by assumption) (Below.drew (Below.refl _ _)) (Nat.le_refl _) | exact keep_step (by assumption) (by assumption) (by first | omega | ((try simp only [World.size_drew, size_alloc]); omega) | (have := (‹(_ ∧ Below (w.heap.size + 1) w2 _)›).2.size; (try simp only [World.size_drew, size_alloc] at this ⊢); omega))) (fun hHeld => ?_); clear hK K; try simp only [Act.put, List.setIfInBounds_toArray, List.set_cons_zero, List.set_cons_succ])
      refine wpAnyH_take (i := 6) (oi := ⟨some 4, _, _, _, _, _⟩) (v := ?_) rfl (by kernel_rfl) (by kernel_rfl) (by kernel_rfl) (fun _ _ _ h => h) (Or.inl ⟨by rfl, ?_⟩) (by assumption) ?_
      rotate_left 1
      · (intro w hSw; (try dsimp only at hSw); go_simp; try (with_reducible rfl))
      try simp only [Act.put, List.setIfInBounds_toArray, List.set_cons_zero, List.set_cons_succ]
      refine wpAnyH_done (by kernel_rfl) ?_ _
      have hs4 := HB4.out.size
      go_wp2_with fail
      go_ret
      exact ⟨a6, c6, ret_sl (by rw [HE.out]; first | done | rfl | (simp [bigL_len]; done) | (simp [bigL_len]; omega)), by rw [HE.out, show b ++ 202 :: bigL n 4 = (b ++ [202]) ++ bigL n (4 : Int).toNat from by rw [List.append_assoc]; rfl]; exact happ6.less (by omega), HB2.out.trans ((HB4.out.trans (hb6.mono (by omega))).mono (by omega))⟩
    by_cases h5 : k = 5
    · subst h5
      have HE := Lib.hid (show markL 5 n = [212, 1, n] from by rw [HMK.out, if_neg (by omega), if_neg (by omega), if_neg (by omega), if_neg (by omega), if_pos rfl])
      have hn2 : 0 ≤ n ∧ n ≤ 2 := by have h := HOK.out; rw [if_neg (by omega), if_neg (by omega), if_neg (by omega), if_neg (by omega), if_pos rfl] at h; exact of_decide_eq_true h.symm
      obtain ⟨hn3, hn4⟩ := hn2
      have hwu : IntKind.u8.wrap n = n := by rw [IntKind.wrap_u8]; omega
      have HU : Hid (∀ v ∈ [(212 : Int), 1, n], U8 v) := Lib.hid (by intro v hv; simp only [List.mem_cons, List.not_mem_nil, or_false] at hv; rcases hv with rfl | rfl | rfl <;> (unfold U8; omega))
      go_wp2_with (at_builtin; refine wpList_bytes rfl _ _ 22 rfl Tryz.underlying22 info_Byte2 (w.heap.size + 1) a1 _ c1 b rfl rfl HA2.out hlo2 [212, 1, n] _ 3 3 rfl (by rfl) rfl (by first | rfl | simp [hwu]) HU.out (by simp) (by simp; omega) ?_; intro a5 c5 w5 happ5 hb5)
      go_ret
      exact ⟨a5, c5, ret_sl (by rw [HE.out]; first | done | rfl | (simp [bigL_len]; done) | (simp [bigL_len]; omega)), by rw [HE.out]; exact happ5.less (by omega), HB2.out.trans (hb5.mono (by omega))⟩
    by_cases h7 : k = 7
    · subst h7
      have HE := Lib.hid (show markL 7 n = putManyL n 32 160 217 218 from by rw [HMK.out, if_neg (by omega), if_neg (by omega), if_neg (by omega), if_neg (by omega), if_neg (by omega), if_pos rfl])
      have hn2 : 0 ≤ n ∧ n ≤ 65535 := by have h := HOK.out; rw [if_neg (by omega), if_neg (by omega), if_neg (by omega), if_neg (by omega), if_neg (by omega), if_pos (by omega)] at h; exact of_decide_eq_true h.symm
      go_wp2_with fail
      refine (spec_l15Len b n 32 160 217 218 a1 c1 (w.heap.size + 1) w2 HA2.out hlo2 (by omega) hn2 (by omega) (by omega) (by omega) (by omega)).mono ?_
      rintro e w5 ⟨a5, c5, rfl, happ5, hb5⟩
      go_wp2_with fail
      go_ret
      exact ⟨a5, c5, ret_sl (by rw [HE.out]; first | done | rfl | (simp [bigL_len]; done) | (simp [bigL_len]; omega)), by rw [HE.out]; exact happ5.less (by omega), HB2.out.trans (hb5.mono (by omega))⟩
    by_cases h8 : k = 8
    · subst h8
      have HE := Lib.hid (show markL 8 n = putManyL n 0 0 196 197 from by rw [HMK.out, if_neg (by omega), if_neg (by omega), if_neg (by omega), if_neg (by omega), if_neg (by omega), if_neg (by omega), if_pos rfl])
      have hn2 : 0 ≤ n ∧ n ≤ 65535 := by have h := HOK.out; rw [if_neg (by omega), if_neg (by omega), if_neg (by omega), if_neg (by omega), if_neg (by omega), if_pos (by omega)] at h; exact of_decide_eq_true h.symm
      go_wp2_with fail
      refine (spec_l15Len b n 0 0 196 197 a1 c1 (w.heap.size + 1) w2 HA2.out hlo2 (by omega) hn2 (by omega) (by omega) (by omega) (by omega)).mono ?_
      rintro e w5 ⟨a5, c5, rfl, happ5, hb5⟩
      go_wp2_with fail
      go_ret
      exact ⟨a5, c5, ret_sl (by rw [HE.out]; first | done | rfl | (simp [bigL_len]; done) | (simp [bigL_len]; omega)), by rw [HE.out]; exact happ5.less (by omega), HB2.out.trans (hb5.mono (by omega))⟩
    by_cases h9 : k = 9
    · subst h9
      have HE := Lib.hid (show markL 9 n = putManyL n 16 144 0 220 from by rw [HMK.out, if_neg (by omega), if_neg (by omega), if_neg (by omega), if_neg (by omega), if_neg (by omega), if_neg (by omega), if_neg (by omega), if_pos rfl])
      have hn2 : 0 ≤ n ∧ n ≤ 65535 := by have h := HOK.out; rw [if_neg (by omega), if_neg (by omega), if_neg (by omega), if_neg (by omega), if_neg (by omega), if_pos (by omega)] at h; exact of_decide_eq_true h.symm
      go_wp2_with fail
      refine (spec_l15Len b n 16 144 0 220 a1 c1 (w.heap.size + 1) w2 HA2.out hlo2 (by omega) hn2 (by omega) (by omega) (by omega) (by omega)).mono ?_
      rintro e w5 ⟨a5, c5, rfl, happ5, hb5⟩
      go_wp2_with fail
      go_ret
      exact ⟨a5, c5, ret_sl (by rw [HE.out]; first | done | rfl | (simp [bigL_len]; done) | (simp [bigL_len]; omega)), by rw [HE.out]; exact happ5.less (by omega), HB2.out.trans (hb5.mono (by omega))⟩
    have h10 : k = 10 := by
      by_cases h10 : k = 10
      · exact h10
      · have h := HOK.out
        rw [if_neg h1, if_neg h2, if_neg h3, if_neg h4, if_neg h5, if_neg (by omega)] at h
        cases h
    subst h10
    have HE := Lib.hid (show markL 10 n = putManyL n 16 128 0 222 from by rw [HMK.out, if_neg (by omega), if_neg (by omega), if_neg (by omega), if_neg (by omega), if_neg (by omega), if_neg (by omega), if_neg (by omega), if_neg (by omega)])
    have hn2 : 0 ≤ n ∧ n ≤ 65535 := by have h := HOK.out; rw [if_neg (by omega), if_neg (by omega), if_neg (by omega), if_neg (by omega), if_neg (by omega), if_pos (by omega)] at h; exact of_decide_eq_true h.symm
    go_wp2_with fail
    refine (spec_l15Len b n 16 128 0 222 a1 c1 (w.heap.size + 1) w2 HA2.out hlo2 (by omega) hn2 (by omega) (by omega) (by omega) (by omega)).mono ?_
    rintro e w5 ⟨a5, c5, rfl, happ5, hb5⟩
    go_wp2_with fail
    go_ret
    exact ⟨a5, c5, ret_sl (by rw [HE.out]; first | done | rfl | (simp [bigL_len]; done) | (simp [bigL_len]; omega)), by rw [HE.out]; exact happ5.less (by omega), HB2.out.trans (hb5.mono (by omega))⟩
set_option maxHeartbeats 8000000 in
theorem impl_PutMark (b : List Int) (k n : Int) (a : Option Addr) (cap B : Nat) (w : World) (hr : Rd EByte 1 w B a cap b) (hn : I64 n) (hz : b.length ≤ 1000000000) (hB : B ≤ w.heap.size) :
    Calls Tryz.prog 124 #[.slice a b.length cap, .agg (cM k n)] w fun e w' => ∃ a' cap', e = .returned (.slice a' (b ++ markL k n).length cap') ∧ AppL EByte 1 5 w' w.heap.size a' cap' (b ++ markL k n) [] ∧ Below w.heap.size w w' := by
  have q0 := Is.new w (cM k n) 65
  have hb0 := below1 w (.cells (cM k n) 65)
  obtain ⟨a1, c1, w1, hrun, happ, hb1⟩ := copyB (w.alloc (.cells (cM k n) 65)) b a cap B (hr.below EByte.loc hb0 hB) (by simp; omega) (by omega)
  have lg : w.heap.size < (w.alloc (.cells (cM k n) 65)).heap.size := by simp
  have q1 := q0.below hb1 lg
  have HA1 : Hid (AppL EByte 1 5 w1 (w.heap.size + 1) a1 c1 b []) := Lib.hid (by rw [size_alloc] at happ; exact happ)
  have HB1 := Lib.hid (hb0.trans (hb1.mono (by omega)))
  have hs1 := HB1.out.size
  obtain ⟨c10, c11⟩ := q1.cells2
  have lg1 : w.heap.size < w1.heap.size := q1.lt
  have Q1 := Lib.hid q1
  obtain ⟨bb, hbb⟩ : ∃ r, markOkD k n = r := ⟨_, rfl⟩
  have HBB := Lib.hid hbb
  have HN := Lib.hid hn
  have HMK := Lib.hid (show markL k n = if markOkD k n = false then [] else if k = 1 then [192] else if k = 2 then [194 + n] else if k = 3 then putIntL n else if k = 4 then 202 :: bigL n 4 else if k = 5 then [212, 1, n] else if k = 7 then putManyL n 32 160 217 218 else if k = 8 then putManyL n 0 0 196 197 else if k = 9 then putManyL n 16 144 0 220 else putManyL n 16 128 0 222 from rfl)
  have HOK := Lib.hid (show markOkD k n = if k = 1 then decide (n = 0) else if k = 2 then decide (0 ≤ n ∧ n ≤ 1) else if k = 3 then decide (-1000000000000000 ≤ n ∧ n ≤ 1000000000000000) else if k = 4 then ((bitsFltD n).2 && decide (fltBitsD (bitsFltD n).1.1 (bitsFltD n).1.2 = n)) else if k = 5 then decide (0 ≤ n ∧ n ≤ 2) else if k = 7 ∨ k = 8 ∨ k = 9 ∨ k = 10 then decide (0 ≤ n ∧ n ≤ 65535) else false from rfl)
  rw [hbb] at HMK HOK
  clear hbb happ hb1 hb0 q0 q1 hr hn lg
  go_enter Tryz.func124, Tryz.ntmps124
  rw [size_alloc] at hrun
  go_upto_region 2 with (at_builtin; refine Lib.wpList_append_run _ rfl _ _ _ _ rfl _ _ rfl rfl _ _ hrun ?_)
  clear hrun
  go_wp2_with fail
  refine (impl_MarkOk k n w1 HN.out).mono ?_
  rintro ee w2 ⟨rfl, hb2⟩
  rw [HBB.out]
  have q2 := Q1.out.below hb2 lg1
  obtain ⟨d0, d1⟩ := q2.cells2
  have lg2 : w.heap.size < w2.heap.size := q2.lt
  have HA2 := Lib.hid (HA1.out.agree EByte.elem (fun f hf => hb2.block f hf) (by omega))
  have HB2 := Lib.hid (HB1.out.trans (hb2.mono hs1))
  have hs2 := HB2.out.size
  have hlo2 : w.heap.size + 1 ≤ w2.heap.size := by omega
  have Q2 := Lib.hid q2
  clear c10 c11 hb2 q2
  cases bb with
  | false =>
    have HE := Lib.hid (show b ++ markL k n = b from by rw [HMK.out, if_pos rfl, List.append_nil])
    go_wp2_with fail
    go_ret
    exact ⟨a1, c1, by rw [HE.out]; rfl, by rw [HE.out]; exact HA2.out.less (by omega), HB2.out⟩
  | true =>
    rw [if_neg (by simp)] at HMK
    by_cases h1 : k = 1
    · subst h1
      have HE := Lib.hid (show markL 1 n = [192] from by rw [HMK.out, if_pos rfl])
      have HU : Hid (∀ v ∈ [(192 : Int)], U8 v) := Lib.hid (by intro v hv; simp only [List.mem_cons, List.not_mem_nil, or_false] at hv; subst hv; (unfold U8; omega))
      go_wp2_with (at_builtin; refine wpList_bytes rfl _ _ 22 rfl Tryz.underlying22 info_Byte2 (w.heap.size + 1) a1 _ c1 b rfl rfl HA2.out hlo2 [192] _ 1 1 rfl (by rfl) rfl (by first | rfl | simp []) HU.out (by simp) (by simp; omega) ?_; intro a5 c5 w5 happ5 hb5)
      go_ret
      exact ⟨a5, c5, ret_sl (by rw [HE.out]; first | done | rfl | (simp [bigL_len]; done) | (simp [bigL_len]; omega)), by rw [HE.out]; exact happ5.less (by omega), HB2.out.trans (hb5.mono (by omega))⟩
    by_cases h2 : k = 2
    · subst h2
      have HE := Lib.hid (show markL 2 n = [194 + n] from by rw [HMK.out, if_neg (by omega), if_pos rfl])
      have hn2 : 0 ≤ n ∧ n ≤ 1 := by have h := HOK.out; rw [if_neg (by omega), if_pos rfl] at h; exact of_decide_eq_true h.symm
      obtain ⟨hn3, hn4⟩ := hn2
      have hwu : IntKind.u8.wrap (194 + n) = 194 + n := by rw [IntKind.wrap_u8]; omega
      have HU : Hid (∀ v ∈ [(194 + n : Int)], U8 v) := Lib.hid (by intro v hv; simp only [List.mem_cons, List.not_mem_nil, or_false] at hv; subst hv; (unfold U8; omega))
      go_wp2_with (at_builtin; refine wpList_bytes rfl _ _ 22 rfl Tryz.underlying22 info_Byte2 (w.heap.size + 1) a1 _ c1 b rfl rfl HA2.out hlo2 [194 + n] _ 1 1 rfl (by rfl) rfl (by first | rfl | simp [hwu]) HU.out (by simp) (by simp; omega) ?_; intro a5 c5 w5 happ5 hb5)
      go_ret
      exact ⟨a5, c5, ret_sl (by rw [HE.out]; first | done | rfl | (simp [bigL_len]; done) | (simp [bigL_len]; omega)), by rw [HE.out]; exact happ5.less (by omega), HB2.out.trans (hb5.mono (by omega))⟩
    by_cases h3 : k = 3
    · subst h3
      have HE := Lib.hid (show markL 3 n = putIntL n from by rw [HMK.out, if_neg (by omega), if_neg (by omega), if_pos rfl])
      go_wp2_with fail
      refine (impl_putInt b n a1 c1 (w.heap.size + 1) w2 HA2.out hlo2 (by omega) HN.out).mono ?_
      rintro e w5 ⟨a5, c5, rfl, happ5, hb5⟩
      go_wp2_with fail
      go_ret
      exact ⟨a5, c5, ret_sl (by rw [HE.out]; first | done | rfl | (simp [bigL_len]; done) | (simp [bigL_len]; omega)), by rw [HE.out]; exact happ5.less (by omega), HB2.out.trans (hb5.mono (by omega))⟩
    by_cases h4 : k = 4
    · subst h4
      have HE := Lib.hid (show markL 4 n = 202 :: bigL n 4 from by rw [HMK.out, if_neg (by omega), if_neg (by omega), if_neg (by omega), if_pos rfl])
      have HU : Hid (∀ v ∈ [(202 : Int)], U8 v) := Lib.hid (by intro v hv; simp only [List.mem_cons, List.not_mem_nil, or_false] at hv; subst hv; (unfold U8; omega))
      have hfn : 0 ≤ n ∧ n ≤ 33554431 := by
        have h := HOK.out
        rw [if_neg (by omega), if_neg (by omega), if_neg (by omega), if_pos rfl] at h
        have h2 := h.symm
        simp only [Bool.and_eq_true, decide_eq_true_eq] at h2
        have h3 := fltBitsD_in (bitsFltD n).1.1 (bitsFltD n).1.2
        have h4 : fltBitsD (bitsFltD n).1.1 (bitsFltD n).1.2 ≠ -1 := by
          intro h5
          have h6 := h2.2
          rw [h5] at h6
          have h7 : bitsFltD n = ((0, 0), false) := if_neg (by omega)
          rw [h7] at h2
          exact absurd h2.1 (by simp)
        omega
      obtain ⟨hf0, hf1⟩ := hfn
      go_wp2_with fail
      refine wp_region_held_drew (S := fun w' => (∀ b o, b < w.heap.size + 1 → w'.cell? ⟨b, o, none⟩ = w2.cell? ⟨b, o, none⟩) ∧ Below (w.heap.size + 1) w2 w') (by kernel_rfl) (by first | exact ⟨fun _ _ _ => rfl, (Below.refl _ _).drew⟩ | exact keep_step (by assumption) (Below.drew (Below.refl _ _)) (Nat.le_refl _) | exact keep_step (by assumption) (by assumption) (by first | omega | ((try simp only [World.size_drew, size_alloc]); omega) | (have := (‹(_ ∧ Below (w.heap.size + 1) w2 _)›).2.size; (try simp only [World.size_drew, size_alloc] at this ⊢); omega))) (fun hHeld => ?_)
      refine wpAnyH_take (i := 0) (oi := ⟨some 37, _, _, _, _, _⟩) (v := ?_) rfl (by kernel_rfl) (by kernel_rfl) (by kernel_rfl) (fun _ _ _ h => h) (Or.inl ⟨by rfl, ?_⟩) (by assumption) ?_
      rotate_left 1
      · (intro w hSw; (try dsimp only at hSw); go_simp; try (with_reducible rfl))
      try simp only [Act.put, List.setIfInBounds_toArray, List.set_cons_zero, List.set_cons_succ]
      refine wpAnyH_take (i := 3) (oi := ⟨some 40, _, _, _, _, _⟩) (v := ?_) rfl (by kernel_rfl) (by kernel_rfl) (by kernel_rfl) (fun _ _ _ h => h) (Or.inl ⟨by rfl, ?_⟩) (by assumption) ?_
      rotate_left 1
      · (intro w hSw; (try dsimp only at hSw); go_simp; try (with_reducible rfl))
      try simp only [Act.put, List.setIfInBounds_toArray, List.set_cons_zero, List.set_cons_succ]
      refine wpAnyH_take (i := 4) (oi := ⟨some 41, _, _, _, _, _⟩) (v := ?_) rfl (by kernel_rfl) (by kernel_rfl) (by kernel_rfl) (fun _ _ _ h => h) (Or.inl ⟨by rfl, ?_⟩) (by assumption) ?_
      rotate_left 1
      · (intro w hSw; (try dsimp only at hSw); go_simp; try (with_reducible rfl))
      try simp only [Act.put, List.setIfInBounds_toArray, List.set_cons_zero, List.set_cons_succ]
      refine wpAnyH_ready (rs := [1]) (by kernel_rfl) (by simp) ?_
      refine AllReadyH.cons (o := ⟨some 38, _, _, _, _, _⟩) rfl (fun K hK => ?_) AllReadyH.nil
      go_simp
      go_wp2_with fail
      refine hK.out _ _ (by first | (with_reducible exact keep_step (by assumption) (below1 _ _) (by first | omega | ((try simp only [World.size_drew, size_alloc]); omega) | (have := (‹(_ ∧ Below (w.heap.size + 1) w2 _)›).2.size; (try simp only [World.size_drew, size_alloc] at this ⊢); omega))) | (exact keep_step (by assumption) (below1 _ _) (by first | omega | ((try simp only [World.size_drew, size_alloc]); omega) | (have := (‹(_ ∧ Below (w.heap.size + 1) w2 _)›).2.size; (try simp only [World.size_drew, size_alloc] at this ⊢); omega)))) (fun hHeld => ?_)
      clear hK K
      try simp only [Act.put, List.setIfInBounds_toArray, List.set_cons_zero, List.set_cons_succ]
      refine wpAnyH_ready (rs := [2]) (by kernel_rfl) (by simp) ?_
      refine AllReadyH.cons (o := ⟨some 39, _, _, _, _, _⟩) rfl (fun K hK => ?_) AllReadyH.nil
      focus ((first | (go_at_call 170; refine (impl_PutBigL _ (b ++ [202]) n 4 a4 c4 w4.heap.size _ (by simp) (HR4.out) (by unfold fitW; omega) (by omega) (by simp; omega) (by first | exact Nat.le_refl _ | (simp only [World.size_drew]; exact Nat.le_refl _))).mono ?_; rintro e w6 ⟨a6, c6, rfl, happ6, hb6⟩) | (refine step_appLX EByte.elem rfl _ _ 22 rfl (.int .u8 0) 1 Tryz.underlying22 info_Byte2 rfl (w.heap.size + 1) a1 c1 b [] rfl (by first | exact HA2.out.agree EByte.elem (fun f hf => (below1 _ _).block f hf) hlo2) (by have := (‹_ ∧ Below (w.heap.size + 1) w2 _›).2.size; first | omega | (simp only [World.size_drew, size_alloc] at this ⊢; omega)) _ 0 1 1 [202] [] rfl rfl ⟨[], [], rfl, ⟨rfl, (Is.new _ _ _).cell 0 rfl, HU.out _ (by simp)⟩, rfl⟩ (by simp) (by omega) (by unfold maxLen; omega) (by omega) ?_; intro a4 c4 w4 happ4 hb4 hout4; have HR4 := Lib.hid (happ4.rd (show w.heap.size + 1 ≤ _ by have := hb4.size; first | omega | (simp only [World.size_drew, size_alloc] at this; omega))); have HB4 := Lib.hid (show Below (w.heap.size + 1) w2 w4 from by first | exact ((below1 w2 _).mono (by omega)).trans hb4 | exact (((below1 w2 (.cells #[.int .u8 202] 5)).mono (by omega)).drew).trans hb4))); refine hK.out _ _ (by first | (with_reducible exact keep_step (by assumption) (by assumption) (by first | omega | ((try simp only [World.size_drew, size_alloc]); omega) | (have := (‹(_ ∧ Below (w.heap.size + 1) w2 _)›).2.size; (try simp only [World.size_drew, size_alloc] at this ⊢); omega))) | first | exact ⟨fun _ _ _ => rfl, (Below.refl _ _).drew⟩ | exact keep_step (by assumption) (Below.drew (Below.refl _ _)) (Nat.le_refl _) | exact keep_step (by assumption) (by assumption) (by first | omega | ((try simp only [World.size_drew, size_alloc]); omega) | (have := (‹(_ ∧ Below (w.heap.size + 1) w2 _)›).2.size; (try simp only [World.size_drew, size_alloc] at this ⊢); omega))) (fun hHeld => ?_); clear hK K; try simp only [Act.put, List.setIfInBounds_toArray, List.set_cons_zero, List.set_cons_succ])
      refine wpAnyH_ready (rs := [5]) (by kernel_rfl) (by simp) ?_
      refine AllReadyH.cons (o := ⟨some 42, _, _, _, _, _⟩) rfl (fun K hK => ?_) AllReadyH.nil
      focus (go_simp; (first | (go_at_call 170; refine (impl_PutBigL _ (b ++ [202]) n 4 a4 c4 w4.heap.size _ (by simp) (HR4.out) (by unfold fitW; omega) (by omega) (by simp; omega) (by first | exact Nat.le_refl _ | (simp only [World.size_drew]; exact Nat.le_refl _))).mono ?_; rintro e w6 ⟨a6, c6, rfl, happ6, hb6⟩) | (refine step_appLX EByte.elem rfl _ _ 22 rfl (.int .u8 0) 1 Tryz.underlying22 info_Byte2 rfl (w.heap.size + 1) a1 c1 b [] rfl (by first | exact HA2.out.agree EByte.elem (fun f hf => (below1 _ _).block f hf) hlo2) (by have := (‹_ ∧ Below (w.heap.size + 1) w2 _›).2.size; first | omega | (simp only [World.size_drew, size_alloc] at this ⊢; omega)) _ 0 1 1 [202] [] rfl rfl ⟨[], [], rfl, ⟨rfl, (Is.new _ _ _).cell 0 rfl, HU.out _ (by simp)⟩, rfl⟩ (by simp) (by omega) (by unfold maxLen; omega) (by omega) ?_; intro a4 c4 w4 happ4 hb4 hout4; have HR4 := Lib.hid (happ4.rd (show w.heap.size + 1 ≤ _ by have := hb4.size; first | omega | (simp only [World.size_drew, size_alloc] at this; omega))); have HB4 := Lib.hid (show Below (w.heap.size + 1) w2 w4 from by first | exact ((below1 w2 _).mono (by omega)).trans hb4 | exact (((below1 w2 (.cells #[.int .u8 202] 5)).mono (by omega)).drew).trans hb4))); go_wp2_with fail; refine hK.out _ _ (by first | exact ⟨fun _ _ _ => rfl, (Below.refl _ _).drew⟩ | exact keep_step (by assumption) (Below.drew (Below.refl _ _)) (Nat.le_refl _) | exact keep_step (by assumption) (by assumption) (by first | omega | ((try simp only [World.size_drew, size_alloc]); omega) | (have := (‹(_ ∧ Below (w.heap.size + 1) w2 _)›).2.size; (try simp only [World.size_drew, size_alloc] at this ⊢); omega))) (fun hHeld => ?_); clear hK K; try simp only [Act.put, List.setIfInBounds_toArray, List.set_cons_zero, List.set_cons_succ])
      refine wpAnyH_take (i := 6) (oi := ⟨some 4, _, _, _, _, _⟩) (v := ?_) rfl (by kernel_rfl) (by kernel_rfl) (by kernel_rfl) (fun _ _ _ h => h) (Or.inl ⟨by rfl, ?_⟩) (by assumption) ?_
      rotate_left 1
      · (intro w hSw; (try dsimp only at hSw); go_simp; try (with_reducible rfl))
      try simp only [Act.put, List.setIfInBounds_toArray, List.set_cons_zero, List.set_cons_succ]
      refine wpAnyH_done (by kernel_rfl) ?_ _
      have hs4 := HB4.out.size
      go_wp2_with fail
      go_ret
      exact ⟨a6, c6, ret_sl (by rw [HE.out]; first | done | rfl | (simp [bigL_len]; done) | (simp [bigL_len]; omega)), by rw [HE.out, show b ++ 202 :: bigL n 4 = (b ++ [202]) ++ bigL n (4 : Int).toNat from by rw [List.append_assoc]; rfl]; exact happ6.less (by omega), HB2.out.trans ((HB4.out.trans (hb6.mono (by omega))).mono (by omega))⟩
    by_cases h5 : k = 5
    · subst h5
      have HE := Lib.hid (show markL 5 n = [212, 1, n] from by rw [HMK.out, if_neg (by omega), if_neg (by omega), if_neg (by omega), if_neg (by omega), if_pos rfl])
      have hn2 : 0 ≤ n ∧ n ≤ 2 := by have h := HOK.out; rw [if_neg (by omega), if_neg (by omega), if_neg (by omega), if_neg (by omega), if_pos rfl] at h; exact of_decide_eq_true h.symm
      obtain ⟨hn3, hn4⟩ := hn2
      have hwu : IntKind.u8.wrap n = n := by rw [IntKind.wrap_u8]; omega
      have HU : Hid (∀ v ∈ [(212 : Int), 1, n], U8 v) := Lib.hid (by intro v hv; simp only [List.mem_cons, List.not_mem_nil, or_false] at hv; rcases hv with rfl | rfl | rfl <;> (unfold U8; omega))
      go_wp2_with (at_builtin; refine wpList_bytes rfl _ _ 22 rfl Tryz.underlying22 info_Byte2 (w.heap.size + 1) a1 _ c1 b rfl rfl HA2.out hlo2 [212, 1, n] _ 3 3 rfl (by rfl) rfl (by first | rfl | simp [hwu]) HU.out (by simp) (by simp; omega) ?_; intro a5 c5 w5 happ5 hb5)
      go_ret
      exact ⟨a5, c5, ret_sl (by rw [HE.out]; first | done | rfl | (simp [bigL_len]; done) | (simp [bigL_len]; omega)), by rw [HE.out]; exact happ5.less (by omega), HB2.out.trans (hb5.mono (by omega))⟩
    by_cases h7 : k = 7
    · subst h7
      have HE := Lib.hid (show markL 7 n = putManyL n 32 160 217 218 from by rw [HMK.out, if_neg (by omega), if_neg (by omega), if_neg (by omega), if_neg (by omega), if_neg (by omega), if_pos rfl])
      have hn2 : 0 ≤ n ∧ n ≤ 65535 := by have h := HOK.out; rw [if_neg (by omega), if_neg (by omega), if_neg (by omega), if_neg (by omega), if_neg (by omega), if_pos (by omega)] at h; exact of_decide_eq_true h.symm
      go_wp2_with fail
      refine (impl_putMany b n 32 160 217 218 a1 c1 (w.heap.size + 1) w2 HA2.out hlo2 (by omega) hn2 (by omega) (by omega) (by omega) (by omega)).mono ?_
      rintro e w5 ⟨a5, c5, rfl, happ5, hb5⟩
      go_wp2_with fail
      go_ret
      exact ⟨a5, c5, ret_sl (by rw [HE.out]; first | done | rfl | (simp [bigL_len]; done) | (simp [bigL_len]; omega)), by rw [HE.out]; exact happ5.less (by omega), HB2.out.trans (hb5.mono (by omega))⟩
    by_cases h8 : k = 8
    · subst h8
      have HE := Lib.hid (show markL 8 n = putManyL n 0 0 196 197 from by rw [HMK.out, if_neg (by omega), if_neg (by omega), if_neg (by omega), if_neg (by omega), if_neg (by omega), if_neg (by omega), if_pos rfl])
      have hn2 : 0 ≤ n ∧ n ≤ 65535 := by have h := HOK.out; rw [if_neg (by omega), if_neg (by omega), if_neg (by omega), if_neg (by omega), if_neg (by omega), if_pos (by omega)] at h; exact of_decide_eq_true h.symm
      go_wp2_with fail
      refine (impl_putMany b n 0 0 196 197 a1 c1 (w.heap.size + 1) w2 HA2.out hlo2 (by omega) hn2 (by omega) (by omega) (by omega) (by omega)).mono ?_
      rintro e w5 ⟨a5, c5, rfl, happ5, hb5⟩
      go_wp2_with fail
      go_ret
      exact ⟨a5, c5, ret_sl (by rw [HE.out]; first | done | rfl | (simp [bigL_len]; done) | (simp [bigL_len]; omega)), by rw [HE.out]; exact happ5.less (by omega), HB2.out.trans (hb5.mono (by omega))⟩
    by_cases h9 : k = 9
    · subst h9
      have HE := Lib.hid (show markL 9 n = putManyL n 16 144 0 220 from by rw [HMK.out, if_neg (by omega), if_neg (by omega), if_neg (by omega), if_neg (by omega), if_neg (by omega), if_neg (by omega), if_neg (by omega), if_pos rfl])
      have hn2 : 0 ≤ n ∧ n ≤ 65535 := by have h := HOK.out; rw [if_neg (by omega), if_neg (by omega), if_neg (by omega), if_neg (by omega), if_neg (by omega), if_pos (by omega)] at h; exact of_decide_eq_true h.symm
      go_wp2_with fail
      refine (impl_putMany b n 16 144 0 220 a1 c1 (w.heap.size + 1) w2 HA2.out hlo2 (by omega) hn2 (by omega) (by omega) (by omega) (by omega)).mono ?_
      rintro e w5 ⟨a5, c5, rfl, happ5, hb5⟩
      go_wp2_with fail
      go_ret
      exact ⟨a5, c5, ret_sl (by rw [HE.out]; first | done | rfl | (simp [bigL_len]; done) | (simp [bigL_len]; omega)), by rw [HE.out]; exact happ5.less (by omega), HB2.out.trans (hb5.mono (by omega))⟩
    have h10 : k = 10 := by
      by_cases h10 : k = 10
      · exact h10
      · have h := HOK.out
        rw [if_neg h1, if_neg h2, if_neg h3, if_neg h4, if_neg h5, if_neg (by omega)] at h
        cases h
    subst h10
    have HE := Lib.hid (show markL 10 n = putManyL n 16 128 0 222 from by rw [HMK.out, if_neg (by omega), if_neg (by omega), if_neg (by omega), if_neg (by omega), if_neg (by omega), if_neg (by omega), if_neg (by omega), if_neg (by omega)])
    have hn2 : 0 ≤ n ∧ n ≤ 65535 := by have h := HOK.out; rw [if_neg (by omega), if_neg (by omega), if_neg (by omega), if_neg (by omega), if_neg (by omega), if_pos (by omega)] at h; exact of_decide_eq_true h.symm
    go_wp2_with fail
    refine (impl_putMany b n 16 128 0 222 a1 c1 (w.heap.size + 1) w2 HA2.out hlo2 (by omega) hn2 (by omega) (by omega) (by omega) (by omega)).mono ?_
    rintro e w5 ⟨a5, c5, rfl, happ5, hb5⟩
    go_wp2_with fail
    go_ret
    exact ⟨a5, c5, ret_sl (by rw [HE.out]; first | done | rfl | (simp [bigL_len]; done) | (simp [bigL_len]; omega)), by rw [HE.out]; exact happ5.less (by omega), HB2.out.trans (hb5.mono (by omega))⟩
end Go.Proofs.YtohfljaaaojjmaaGreatDoor
namespace Go.Proofs.YtohfljaaaojjmaaGreatDoor
open Go.ChangeShapes Go.WideShapes Go.ChangeAt Go.RowKit Go.Joins
set_option linter.unusedVariables false
set_option maxRecDepth 100000
theorem AppL.u8 {e : TypeId} {w : World} {rlo cap : Nat} {a : Option Addr} {l : List Int} (h : AppL EByte 1 e w rlo a cap l []) : ∀ x ∈ l, U8 x := by
  intro x hx
  rcases h with ⟨_, _, rfl, _⟩ | ⟨g, cur, ha, h1, h3, h4, h5, h6, h7, h8⟩
  · cases hx
  · obtain ⟨j, hj, rfl⟩ := List.mem_iff_getElem.1 hx
    obtain ⟨F', hv, _⟩ := h7.get j hj
    exact hv.2.2
theorem spec_PutMark0 (k n : Int) (g : Nat) (w : World) (hn : I64 n) :
    Calls Tryz.prog 83 #[.slice (Option.some ⟨g, 0, none⟩) 0 0, .agg (cM k n)] w fun e w' => ∃ a' cap', e = .returned (.slice a' (markL k n).length cap') ∧ AppL EByte 1 5 w' w.heap.size a' cap' (markL k n) [] ∧ Below w.heap.size w w' :=
  spec_PutMark [] k n (Option.some ⟨g, 0, none⟩) 0 0 w ⟨[], Sl.nil _ _ _ (by simp [maxLen]), by simp⟩ hn (by simp) (Nat.zero_le _)
theorem impl_PutMark0 (k n : Int) (w : World) (hn : I64 n) :
    Calls Tryz.prog 124 #[.slice none 0 0, .agg (cM k n)] w fun e w' => ∃ a' cap', e = .returned (.slice a' (markL k n).length cap') ∧ AppL EByte 1 5 w' w.heap.size a' cap' (markL k n) [] ∧ Below w.heap.size w w' :=
  impl_PutMark [] k n none 0 0 w (Rd.nil _ _) hn (by simp) (Nat.zero_le _)
set_option maxHeartbeats 8000000 in
theorem spec_PackPacked : ∀ t : T, ∀ (a : Option Addr) (cap B : Nat) (w : World), R w B a cap t.l → Wf t → T.sz t ≤ 1048576 → B ≤ w.heap.size →
    Calls Tryz.prog 41 #[.agg (cV t a cap)] w fun e w' => ∃ a' cap', e = .returned (.slice a' (packK t).length cap') ∧ AppL EByte 1 5 w' w.heap.size a' cap' (packK t) [] ∧ Below w.heap.size w w' := by
  intro t
  induction t using T.ind with
  | h k n x s l ih =>
    intro a cap B w hr hwf hsz hB
    have IH := Lib.hid ih; clear ih
    have HMF := Lib.hid (fun W (h : R W B a cap l) (hb : B ≤ W.heap.size) => spec_MarkFor (.mk k n x s l) a cap B W h hwf hb)
    have HMI := Lib.hid (markForD_i64 (.mk k n x s l) hwf hsz)
    have HPK := Lib.hid (show packK (.mk k n x s l) = if markOkD (markForD (.mk k n x s l)).1 (markForD (.mk k n x s l)).2 = false then [] else markL (markForD (.mk k n x s l)).1 (markForD (.mk k n x s l)).2 ++ (if k = 7 ∨ k = 8 then byteL s else if k = 9 ∨ k = 10 then packKs l else []) from by rw [packK])
    obtain ⟨⟨mk, mn⟩, hmk⟩ : ∃ r, markForD (.mk k n x s l) = r := ⟨_, rfl⟩
    rw [hmk] at HMF HMI HPK
    simp only at HMF HMI HPK
    obtain ⟨bb, hbb⟩ : ∃ r, markOkD mk mn = r := ⟨_, rfl⟩
    have HBB := Lib.hid hbb
    rw [hbb] at HPK
    have hmll := markL_len mk mn
    have hszl : T.szL l ≤ 1048576 := by simp only [T.sz] at hsz; omega
    have hss : s.size ≤ 1048576 := by simp only [T.sz] at hsz; omega
    have q0 := Is.new w (cV (.mk k n x s l) a cap) 26
    have HB0 := Lib.hid (below1 w (.cells (cV (.mk k n x s l) a cap) 26))
    simp only [cV, T.k, T.n, T.x, T.s, T.l] at hr HMF q0 HB0 ⊢
    obtain ⟨hl1, hl2⟩ := hr.len
    have hl0 := T.length_le_szL l
    have HR := Lib.hid hr
    have lg := q0.lt
    clear hwf hr hbb hmk hsz
    go_enter Tryz.func41, Tryz.ntmps41
    go_wp2_with fail
    refine (HMF.out _ (HR.out.below HB0.out hB) (by simp; omega)).mono ?_
    rintro e w1 ⟨rfl, hb1⟩
    have HB1 := Lib.hid (below_step HB0.out hb1 (by simp))
    have q1 := q0.below hb1 lg
    have lg1 := q1.lt
    have qm := Is.new w1 (cM mk mn) 65
    have HB2 := Lib.hid (HB1.out.trans ((below1 w1 (.cells (cM mk mn) 65)).mono HB1.out.size))
    have q2 := q1.alloc (.cells (cM mk mn) 65)
    have lgm := qm.lt
    have lg2 := q2.lt
    clear hb1 q0 lg
    go_wp2_with fail
    refine (spec_MarkOk mk mn _ HMI.out).mono ?_
    rintro e w2 ⟨rfl, hb2⟩
    rw [HBB.out]
    have HB3 := Lib.hid (HB2.out.trans (hb2.mono HB2.out.size))
    have q3 := q2.below hb2 lg2
    have qm3 := qm.below hb2 lgm
    obtain ⟨r0, r1, r2, r3, r4⟩ := q3.cells5
    obtain ⟨m0, m1⟩ := qm3.cells2
    have lg3 : w.heap.size < w2.heap.size := q3.lt
    have lgm3 : w1.heap.size < w2.heap.size := qm3.lt
    clear hb2 q1 q2 qm
    cases bb with
    | false =>
      rw [if_pos rfl] at HPK
      have HA := Lib.hid (AppL.empty (E := EByte) (n := 1) (e := 5) w2 w.heap.size (by omega))
      go_wp2_with fail
      go_ret
      exact ⟨_, 0, ret_sl (by rw [HPK.out]; rfl), by rw [HPK.out]; exact HA.out, HB3.out.trans ((below1 _ _).mono (by omega))⟩
    | true =>
      rw [if_neg (by simp)] at HPK
      go_wp2_with fail
      have HBe := Lib.hid (HB3.out.trans ((below1 w2 (.cells #[] 5)).mono HB3.out.size))
      have q4 := q3.alloc (.cells #[] 5)
      have lg4 := q4.lt
      refine (spec_PutMark0 mk mn _ _ HMI.out).mono ?_
      rintro e w3 ⟨a3, c3, rfl, happ3, hb3⟩
      have HB4 := Lib.hid (HBe.out.trans (hb3.mono HBe.out.size))
      have q5 := q4.below hb3 lg4
      obtain ⟨y0, y1, y2, y3, y4⟩ := q5.cells5
      have lg5 : w.heap.size < w3.heap.size := q5.lt
      have HA3 := Lib.hid (happ3.less (show w.heap.size + 1 ≤ _ by first | omega | (simp only [size_alloc]; omega)))
      have Q5 := Lib.hid q5
      clear hb3 happ3 q3 q4 q5 qm3
      by_cases h7 : k = 7 ∨ k = 8
      · rw [if_pos h7] at HPK
        obtain ⟨a4, c4, w4, hrun, happ4, hb4, _, _⟩ := run_appStr (P := Tryz.prog) w3 22 9 22 Tryz.underlying22 Tryz.underlying9 info_Byte2 (w.heap.size + 1) a3 c3 (markL mk mn) HA3.out.u8 HA3.out (by omega) s (by omega)
        have HA4 := Lib.hid happ4; have HB5 := Lib.hid (HB4.out.trans (hb4.mono (by omega)))
        simp only [List.length_append] at hrun
        clear happ4 hb4
        obtain rfl | rfl := h7
        all_goals
          go_wp2_with (at_builtin; refine Lib.wpList_append_run _ rfl _ _ _ _ rfl _ _ rfl rfl _ _ hrun ?_)
          go_ret
          exact ⟨a4, c4, ret_sl (by rw [HPK.out, List.length_append]), by rw [HPK.out]; exact HA4.out.less (by omega), HB5.out⟩
      rw [if_neg h7] at HPK
      by_cases h9 : k = 9 ∨ k = 10
      · rw [if_pos h9] at HPK
        have CP := Lib.hid h9
        obtain rfl | rfl := h9
        all_goals
          go_wp2_with fail
          clear y0 y1 y2 y3 y4 r0 r1 r2 r3 r4 m0 m1
          go_loopw [4, 5] (fun q i wr => ∃ (j : Nat) (a' : Option Addr) (c' : Nat), j ≤ l.length ∧ i = .int .i64 j ∧ q = .slice a' (markL mk mn ++ packKs (l.take j)).length c' ∧ Hid (AppL EByte 1 5 wr (w.heap.size + 1) a' c' (markL mk mn ++ packKs (l.take j)) []) ∧ Hid (Below (w.heap.size + 1) w3 wr)) (fun _ i _ => l.length - (intOf i).toNat)
          case atStart => exact ⟨0, a3, c3, Nat.zero_le _, rfl, by simp [packKs], by simpa [packKs] using HA3, Lib.hid (Below.refl _ _)⟩
          case round =>
            obtain ⟨j, a', c', hj, rfl, rfl, HA, HB⟩ := hrel
            have hbs := HB.out.size
            have qr := Q5.out.below HB.out (by omega)
            obtain ⟨y0, y1, y2, y3, y4⟩ := qr.cells5
            have lgr := qr.lt
            have HBw := Lib.hid (HB4.out.trans (HB.out.mono (by omega)))
            by_cases hlt : j < l.length
            · obtain ⟨b2, o, a2, cap2, rfl, hbl2, d0, d1, d2, d3, d4, hwf, hq⟩ := (HR.out.below HBw.out hB).get j hlt
              have hszj := T.sz_get l j hlt
              have hlb : b2 < wr.heap.size := by omega
              have HWF := Lib.hid hwf
              have HQ := Lib.hid hq
              have hlen2 : (packKs (l.take j)).length ≤ 10485760 := by have := packKs_len (l.take j); have := T.szL_take_le l j; omega
              have hlen3 : (packK l[j]).length ≤ 10485769 := by have := packK_len l[j]; omega
              clear hwf hq
              go_wp2_with fail
              refine (IH.out l[j] (List.getElem_mem hlt) a2 cap2 B wr HQ.out HWF.out (by omega) (by omega)).mono ?_
              rintro e w6 ⟨a6, c6, rfl, happ6, hb6⟩
              have hs6 := hb6.size
              obtain ⟨a4, c4, w4, hrun, happ4, hb4, _, _, _⟩ := run_appL (P := Tryz.prog) w6 EByte.elem 22 22 (.int .u8 0) 1 Tryz.underlying22 info_Byte2 rfl (w.heap.size + 1) a' c' (markL mk mn ++ packKs (l.take j)) [] (HA.out.agree EByte.elem (fun f hf => hb6.block f hf) (by omega)) (by omega) HA.out.cap.1 a6 c6 (packK l[j]) [] ((happ6.rd hs6).srcs EByte.flat) (by simp) (by rw [List.length_append]; unfold maxLen; omega) (by rw [List.length_append]; omega)
              have HA4 := Lib.hid happ4
              have HB5 := Lib.hid ((HB.out.trans (hb6.mono (by omega))).trans hb4)
              have HS := Lib.hid (show markL mk mn ++ packKs (l.take (j + 1)) = (markL mk mn ++ packKs (l.take j)) ++ packK l[j] from by rw [packKs_succ l j hlt, List.append_assoc])
              simp only [List.length_append] at hrun
              clear happ6 hb6 happ4 hb4
              go_wp2_with (at_builtin; refine Lib.wpList_append_run _ rfl _ _ _ _ rfl _ _ rfl rfl _ _ hrun ?_)
              go_roundw
              case rel => exact ⟨j + 1, a4, c4, by omega, by go_num, by rw [HS.out, List.length_append, List.length_append], Lib.hid (by rw [HS.out]; exact HA4.out), HB5⟩
              case measure => simp [intOf]; omega
            · have hjj : l.length = j := by omega
              have HJ := Lib.hid (show l.take j = l from by rw [← hjj, List.take_length])
              rw [HJ.out] at HA ⊢
              go_wp2_with fail
              go_ret
              exact ⟨a', c', ret_sl (by rw [HPK.out]), by rw [HPK.out]; exact HA.out.less (by omega), HBw.out⟩
      · rw [if_neg h9, List.append_nil] at HPK
        have g7 : ¬ k = 7 := by omega
        have g8 : ¬ k = 8 := by omega
        have g9 : ¬ k = 9 := by omega
        have g10 : ¬ k = 10 := by omega
        go_wp2_with fail
        go_ret
        exact ⟨a3, c3, ret_sl (by rw [HPK.out]), by rw [HPK.out]; exact HA3.out.less (by omega), HB4.out⟩
end Go.Proofs.YtohfljaaaojjmaaGreatDoor
namespace Go.Proofs.YtohfljaaaojjmaaGreatDoor
open Go.ChangeShapes Go.WideShapes Go.ChangeAt Go.RowKit Go.Joins
set_option linter.unusedVariables false
set_option maxRecDepth 100000
set_option maxHeartbeats 8000000 in
theorem impl_appendPacked : ∀ t : T, ∀ (b : List Int) (ar : Option Addr) (cr rlo : Nat) (a : Option Addr) (cap B : Nat) (w : World), R w B a cap t.l → Wf t → T.sz t ≤ 1048576 → B ≤ rlo → rlo ≤ w.heap.size → AppL EByte 1 5 w rlo ar cr b [] → b.length + 10 * T.sz t + 10 ≤ 1000000000 →
    Calls Tryz.prog 80 #[.slice ar b.length cr, .agg (cV t a cap)] w fun e w' => ∃ a' cap', e = .returned (.slice a' (b ++ packK t).length cap') ∧ AppL EByte 1 5 w' rlo a' cap' (b ++ packK t) [] ∧ Below rlo w w' := by
  intro t
  induction t using T.ind with
  | h k n x s l ih =>
    intro b ar cr rlo a cap B w hr hwf hsz hBr hrl happ hz
    have hB : B ≤ w.heap.size := by omega
    have IH := Lib.hid ih; clear ih
    have HA := Lib.hid happ
    have HMF := Lib.hid (fun W (h : R W B a cap l) (hb : B ≤ W.heap.size) => impl_MarkFor (.mk k n x s l) a cap B W h hwf hb)
    have HMI := Lib.hid (markForD_i64 (.mk k n x s l) hwf hsz)
    have HPK := Lib.hid (show packK (.mk k n x s l) = if markOkD (markForD (.mk k n x s l)).1 (markForD (.mk k n x s l)).2 = false then [] else markL (markForD (.mk k n x s l)).1 (markForD (.mk k n x s l)).2 ++ (if k = 7 ∨ k = 8 then byteL s else if k = 9 ∨ k = 10 then packKs l else []) from by rw [packK])
    obtain ⟨⟨mk, mn⟩, hmk⟩ : ∃ r, markForD (.mk k n x s l) = r := ⟨_, rfl⟩
    rw [hmk] at HMF HMI HPK
    simp only at HMF HMI HPK
    obtain ⟨bb, hbb⟩ : ∃ r, markOkD mk mn = r := ⟨_, rfl⟩
    have HBB := Lib.hid hbb
    rw [hbb] at HPK
    have hmll := markL_len mk mn
    have hszl : T.szL l ≤ 1048576 := by simp only [T.sz] at hsz; omega
    have hss : s.size ≤ 1048576 := by simp only [T.sz] at hsz; omega
    have hz2 : b.length + 10 + 10 * T.szL l ≤ 1000000000 := by simp only [T.sz] at hz; omega
    have q0 := Is.new w (cV (.mk k n x s l) a cap) 26
    have HB0 := Lib.hid (below1 w (.cells (cV (.mk k n x s l) a cap) 26))
    simp only [cV, T.k, T.n, T.x, T.s, T.l] at hr HMF q0 HB0 ⊢
    obtain ⟨hl1, hl2⟩ := hr.len
    have hl0 := T.length_le_szL l
    have HR := Lib.hid hr
    have lg := q0.lt
    clear hwf hr hbb hmk hsz happ hz
    go_enter Tryz.func80, Tryz.ntmps80
    go_wp2_with fail
    refine (HMF.out _ (HR.out.below HB0.out hB) (by simp; omega)).mono ?_
    rintro e w1 ⟨rfl, hb1⟩
    have HB1 := Lib.hid (below_step HB0.out hb1 (by simp))
    have q1 := q0.below hb1 lg
    have lg1 := q1.lt
    have qm := Is.new w1 (cM mk mn) 65
    have HB2 := Lib.hid (HB1.out.trans ((below1 w1 (.cells (cM mk mn) 65)).mono HB1.out.size))
    have q2 := q1.alloc (.cells (cM mk mn) 65)
    have lgm := qm.lt
    have lg2 := q2.lt
    clear hb1 q0 lg
    go_wp2_with fail
    refine (impl_MarkOk mk mn _ HMI.out).mono ?_
    rintro e w2 ⟨rfl, hb2⟩
    rw [HBB.out]
    have HB3 := Lib.hid (HB2.out.trans (hb2.mono HB2.out.size))
    have q3 := q2.below hb2 lg2
    have qm3 := qm.below hb2 lgm
    obtain ⟨r0, r1, r2, r3, r4⟩ := q3.cells5
    obtain ⟨m0, m1⟩ := qm3.cells2
    have lg3 : w.heap.size < w2.heap.size := q3.lt
    have lgm3 : w1.heap.size < w2.heap.size := qm3.lt
    have HA2 := Lib.hid (HA.out.agree EByte.elem (fun f hf => HB3.out.block f hf) hrl)
    clear hb2 q1 q2 qm
    cases bb with
    | false =>
      rw [if_pos rfl] at HPK
      go_wp2_with fail
      go_ret
      exact ⟨ar, cr, ret_sl (by rw [HPK.out, List.append_nil]), by rw [HPK.out, List.append_nil]; exact HA2.out, HB3.out.mono hrl⟩
    | true =>
      rw [if_neg (by simp)] at HPK
      go_wp2_with fail
      refine (impl_PutMark0 mk mn _ HMI.out).mono ?_
      rintro e w3 ⟨a3, c3, rfl, happ3, hb3⟩
      have hs3 := HB3.out.size
      have hs3b := hb3.size
      have HB4 := Lib.hid (HB3.out.trans (hb3.mono HB3.out.size))
      have hs4 := HB4.out.size
      have q5 := q3.below hb3 lg3
      have Q5 := Lib.hid q5
      obtain ⟨a4, c4, w4, hrun, happ4, hb4, hout4, _, hsz4⟩ := run_appL (P := Tryz.prog) w3 EByte.elem 22 22 (.int .u8 0) 1 Tryz.underlying22 info_Byte2 rfl rlo ar cr b [] (HA2.out.agree EByte.elem (fun f hf => hb3.block f hf) (by omega)) (by omega) HA.out.cap.1 a3 c3 (markL mk mn) [] ((happ3.rd (by omega)).srcs EByte.flat) (by simp) (by unfold maxLen; omega) (by omega)
      have hrow := HA2.out.row
      have q6 := q5.agree (hout4 _ q5.lt (fun k' hk' => by have := HA.out.row k' hk'; omega))
      obtain ⟨y0, y1, y2, y3, y4⟩ := q6.cells5
      have lg6 := q6.lt
      have HA4 := Lib.hid happ4
      have HB5 := Lib.hid ((HB4.out.mono hrl).trans hb4)
      have hs5 := HB5.out.size
      simp only [List.length_append] at hrun
      clear hb3 happ3 q3 qm3 happ4 hb4 q5 hrow
      by_cases h7 : k = 7 ∨ k = 8
      · rw [if_pos h7] at HPK
        obtain ⟨a7, c7, w7, hrun7, happ7, hb7, _, _⟩ := run_appStr (P := Tryz.prog) w4 22 9 22 Tryz.underlying22 Tryz.underlying9 info_Byte2 rlo a4 c4 (b ++ markL mk mn) HA4.out.u8 HA4.out (by omega) s (by rw [List.length_append]; omega)
        have HA7 := Lib.hid happ7; have HB7 := Lib.hid (HB5.out.trans hb7)
        simp only [List.length_append] at hrun7
        clear happ7 hb7 hout4
        obtain rfl | rfl := h7
        all_goals
          go_wp2_with (first | (at_builtin; refine Lib.wpList_append_run _ rfl _ _ _ _ rfl _ _ rfl rfl _ _ hrun ?_) | (at_builtin; refine Lib.wpList_append_run _ rfl _ _ _ _ rfl _ _ rfl rfl _ _ hrun7 ?_))
          go_ret
          exact ⟨a7, c7, ret_sl (by rw [HPK.out]; simp only [List.length_append]; omega), by rw [HPK.out, ← List.append_assoc]; exact HA7.out, HB7.out⟩
      rw [if_neg h7] at HPK
      by_cases h9 : k = 9 ∨ k = 10
      · rw [if_pos h9] at HPK
        clear r0 r1 r2 r3 r4
        obtain rfl | rfl := h9
        all_goals
          go_wp2_with (at_builtin; refine Lib.wpList_append_run _ rfl _ _ _ _ rfl _ _ rfl rfl _ _ hrun ?_)
          clear y0 y1 y2 y3 y4 hrun hout4 q6 Q5 lg6 m0 m1
          go_loopw [0, 33] (fun q i wr => ∃ (j : Nat) (a' : Option Addr) (c' : Nat), j ≤ l.length ∧ i = .int .i64 j ∧ q = .slice a' ((b ++ markL mk mn) ++ packKs (l.take j)).length c' ∧ Hid (AppL EByte 1 5 wr rlo a' c' ((b ++ markL mk mn) ++ packKs (l.take j)) []) ∧ Hid (Below rlo w wr)) (fun _ i _ => l.length - (intOf i).toNat)
          case atStart => exact ⟨0, a4, c4, Nat.zero_le _, rfl, by simp [packKs], by simpa [packKs] using HA4, HB5⟩
          case round =>
            obtain ⟨j, a', c', hj, rfl, rfl, HA, HB⟩ := hrel
            have hbs := HB.out.size
            by_cases hlt : j < l.length
            · obtain ⟨b2, o, a2, cap2, rfl, hbl2, d0, d1, d2, d3, d4, hwf, hq⟩ := (HR.out.below HB.out hBr).get j hlt
              have hszj := T.sz_get l j hlt
              have h1 := T.szL_take_succ l j hlt
              have h2 := T.szL_take_le l (j + 1)
              have h3 := packKs_len (l.take j)
              have hlb : b2 < wr.heap.size := by omega
              have HWF := Lib.hid hwf
              have HQ := Lib.hid hq
              have HS := Lib.hid (show (b ++ markL mk mn) ++ packKs (l.take (j + 1)) = ((b ++ markL mk mn) ++ packKs (l.take j)) ++ packK l[j] from by rw [packKs_succ l j hlt]; simp only [List.append_assoc])
              have HIH := Lib.hid (IH.out l[j] (List.getElem_mem hlt))
              obtain ⟨u, hu⟩ : ∃ u, l[j] = u := ⟨_, rfl⟩
              rw [hu] at d0 d1 d2 d3 d4 HQ HWF HS hszj h1 HIH
              clear hwf hq hu
              go_wp2_with fail
              have hb1 : Below wr.heap.size wr (wr.alloc (.cells (cV u a2 cap2) 26)) := below1 _ _
              have hblen : (b ++ markL mk mn ++ packKs (l.take j)).length + 10 * T.sz u + 10 ≤ 1000000000 := by simp only [List.length_append]; omega
              have CC := HIH.out _ a' c' rlo a2 cap2 B _ (HQ.out.below hb1 (by omega)) HWF.out (by omega) hBr (by have := hb1.size; omega) (HA.out.agree EByte.elem (fun f hf => hb1.block f hf) (by omega)) hblen
              simp only [List.length_append, Nat.add_assoc] at CC
              refine CC.mono ?_
              rintro e w6 ⟨a6, c6, rfl, happ6, hb6⟩
              have HA6 := Lib.hid happ6
              have HB6 := Lib.hid ((HB.out.trans (hb1.mono (by omega))).trans hb6)
              clear CC happ6 hb6 hb1
              go_wp2_with fail
              go_roundw
              case rel => exact ⟨j + 1, a6, c6, by omega, by go_num, by rw [HS.out]; first | rfl | (congr 1; simp only [List.length_append, Nat.add_assoc]), Lib.hid (by rw [HS.out]; exact HA6.out), HB6⟩
              case measure => simp [intOf]; omega
            · have hjj : l.length = j := by omega
              have HJ := Lib.hid (show l.take j = l from by rw [← hjj, List.take_length])
              rw [HJ.out] at HA ⊢
              go_wp2_with fail
              go_ret
              exact ⟨a', c', ret_sl (by rw [HPK.out]; simp only [List.length_append]; omega), by rw [HPK.out, ← List.append_assoc]; exact HA.out, HB.out⟩
      · rw [if_neg h9, List.append_nil] at HPK
        have g7 : ¬ k = 7 := by omega
        have g8 : ¬ k = 8 := by omega
        have g9 : ¬ k = 9 := by omega
        have g10 : ¬ k = 10 := by omega
        go_wp2_with (at_builtin; refine Lib.wpList_append_run _ rfl _ _ _ _ rfl _ _ rfl rfl _ _ hrun ?_)
        go_ret
        exact ⟨a4, c4, ret_sl (by rw [HPK.out, List.length_append]), by rw [HPK.out]; exact HA4.out, HB5.out⟩
set_option maxHeartbeats 1000000 in
theorem impl_PackPacked (t : T) (a : Option Addr) (cap B : Nat) (w : World) (hr : R w B a cap t.l) (hwf : Wf t) (hsz : T.sz t ≤ 1048576) (hB : B ≤ w.heap.size) :
    Calls Tryz.prog 40 #[.agg (cV t a cap)] w fun e w' => ∃ a' cap', e = .returned (.slice a' (packK t).length cap') ∧ AppL EByte 1 5 w' w.heap.size a' cap' (packK t) [] ∧ Below w.heap.size w w' := by
  have HR := Lib.hid (hr.below (below1 w (.cells (cV t a cap) 26)) hB)
  have HB0 := Lib.hid (below1 w (.cells (cV t a cap) 26))
  have CC := Lib.hid (impl_appendPacked t [] none 0 w.heap.size a cap B (w.alloc (.cells (cV t a cap) 26)) HR.out hwf hsz hB (by simp) (Or.inl ⟨rfl, rfl, rfl, rfl⟩) (by simp; omega))
  clear hr hwf
  go_enter Tryz.func40, Tryz.ntmps40
  go_wp2_with fail
  refine CC.out.mono ?_
  rintro e w2 ⟨a2, c2, rfl, happ2, hb2⟩
  go_wp2_with fail
  go_ret
  exact ⟨a2, c2, rfl, happ2, HB0.out.trans hb2⟩
end Go.Proofs.YtohfljaaaojjmaaGreatDoor
namespace Go.Proofs.YtohfljaaaojjmaaGreatDoor
open Go.ChangeShapes Go.WideShapes Go.ChangeAt Go.RowKit Go.Joins
set_option linter.unusedVariables false
set_option maxRecDepth 100000
end Go.Proofs.YtohfljaaaojjmaaGreatDoor
namespace Go.Proofs.YtohfljaaaojjmaaGreatDoor
open Go.ChangeShapes Go.WideShapes Go.ChangeAt Go.RowKit Go.Joins
set_option linter.unusedVariables false
set_option maxRecDepth 100000
/-! ### The names ascend: no program in sight -/
end Go.Proofs.YtohfljaaaojjmaaGreatDoor
