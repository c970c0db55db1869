/- Contracts and lemmas for the proofs of this seat: AtL. No condition beyond those stated. -/
import Derived.Test.YtfbgmhjjdgglnaaRows
import Derived.WalkKit
import Derived.ProofKit
import Derived.OpenShut
import Derived.Handy
import Derived.Lib.Hide
import Derived.Lib.SmallJoins
import Derived.Deep.RegionHeld3
import Derived.Deep.QuietTactic
import Derived.BigQuiet
import Derived.Deep.AppendLies
import Derived.Test.YtfbgmhjjdgglnaaBase
import Derived.Test.YtfbgmhjjdgglnaaGen
import Derived.Test.YtfbgmhjjdgglnaaKit
import Derived.Test.YtfbgmhjjdgglnaaApp
import Derived.Test.YtfbgmhjjdgglnaaPath1
import Derived.Test.YtfbgmhjjdgglnaaPath2
import Derived.Test.YtfbgmhjjdgglnaaSame
namespace Go.Proofs.Ytfbgmhjjdgglnaa
open Go.ChangeShapes Go.WideShapes Go.ChangeAt Go.RowKit Go.Joins
set_option linter.unusedVariables false
set_option maxRecDepth 100000
def atL (l : List Lo) (p : List St) : List Int := (l.filter (fun x => decide (x.2 = p))).map (·.1)
theorem atL_take_succ (l : List Lo) (p : List St) (j : Nat) (h : j < l.length) : atL (l.take (j + 1)) p = atL (l.take j) p ++ (if l[j].2 = p then [l[j].1] else []) := by
  rw [take_snoc l j h]; unfold atL; rw [List.filter_append, List.map_append]; congr 1
  by_cases e : l[j].2 = p <;> simp [e]
theorem atL_len (l : List Lo) (p : List St) : (atL l p).length ≤ l.length := by unfold atL; rw [List.length_map]; exact List.length_filter_le _ _
theorem atL_take_len (l : List Lo) (p : List St) (j : Nat) : (atL (l.take j) p).length ≤ l.length := Nat.le_trans (atL_len _ _) (by rw [List.length_take]; omega)
theorem info_Int : (Try.prog.info? 3).map (fun i => (i.zero, i.size, i.bytes)) = some (some (.int .i64 0), 1, 8) := by kernel_rfl
theorem spec_LossesAt (l : List Lo) (p : List St) (a a' : Option Addr) (cap cap' B : Nat) (w : World) (hr : Rd ELoss 2 w B a cap l) (hr' : Rd EStep 2 w B a' cap' p) (hz : l.length ≤ 1048576) (hB : B ≤ w.heap.size) :
    Calls Try.prog 29 #[.slice a l.length cap, .slice a' p.length cap'] w fun e w' => ∃ ar cr, e = .returned (.slice ar (atL l p).length cr) ∧ Ow EInt 1 w' w.heap.size w'.heap.size ar cr (atL l p) ∧ Below w.heap.size w w' := by
  obtain ⟨hl1, hl2⟩ := hr.len
  obtain ⟨hm1, hm2⟩ := hr'.len
  have h0 := App.empty (E := EInt) (n := 1) (e := 3) (nd := True) w w.heap.size (w.heap.size + 1) (Nat.le_refl _) (by omega)
  go_enter Try.func29, Try.ntmps29
  go_wp2_with fail
  go_loopw [5, 6] (fun s i wr => ∃ (j : Nat) (ar : Option Addr) (cr : Nat), j ≤ l.length ∧ i = .int .i64 j ∧ s = .slice ar (atL (l.take j) p).length cr ∧ App EInt 1 3 True wr w.heap.size wr.heap.size ar cr (atL (l.take j) p) ∧ Below w.heap.size w wr) (fun _ i _ => l.length - (intOf i).toNat)
  case atStart => exact ⟨0, _, _, Nat.zero_le _, rfl, rfl, h0.more (Nat.le_refl _) (by simp), below1 _ _⟩
  case round =>
    obtain ⟨j, ar, cr, hj, rfl, rfl, happ, hb⟩ := hrel
    have hbs := hb.size
    by_cases hlt : j < l.length
    · obtain ⟨b, o, a2, cap2, rfl, hbl, d0, d1, hi, hq⟩ := (hr.below ELoss.loc hb hB).loss j hlt
      have HT := Lib.hid (atL_take_succ l p j hlt)
      have hlen := atL_take_len l p j
      go_wp2_with fail
      refine (spec_samePath l[j].2 p a2 a' cap2 cap' B wr hq (hr'.below EStep.loc hb hB) (by omega)).mono ?_
      rintro e w2 ⟨rfl, hb2⟩
      have hs2 := hb2.size
      have d0' : w2.cell? ⟨b, o + j * 2, none⟩ = some (.int .i64 l[j].1) := (World.cell?_of_block (w := wr) (a := ⟨b, o + j * 2, none⟩) (hb2.block b (by omega))).trans d0
      have HA := Lib.hid ((happ.below EInt.elem hb2 (Nat.le_refl _)).more (Nat.le_refl _) hs2); clear happ
      have HB := Lib.hid (hb.trans (hb2.mono hbs)); clear hb2
      by_cases he : l[j].2 = p
      · have hd : decide (l[j].2 = p) = true := by simp [he]
        have HE := Lib.hid he; clear he
        rw [hd]
        have HN := Lib.hid (HA.out.below EInt.elem (below1 w2 (.cells #[.int .i64 l[j].1] 3)) (Nat.le_refl _))
        have hlb : b < w2.heap.size := by omega
        go_wp2_with (at_builtin; refine wpList_app EInt.elem rfl _ _ 56 rfl (.int .i64 0) 8 Try.underlying56 info_Int rfl w.heap.size w2.heap.size ar cr (atL (l.take j) p) rfl HN.out (by simp) (by simp; omega) w2.heap.size 0 1 1 [l[j].1] [] rfl rfl ⟨[], [], rfl, ⟨rfl, (Is.new w2 #[.int .i64 l[j].1] 3).cell 0 rfl, hi⟩, rfl⟩ (by simp) (by simp) (by simp) (by omega) (by unfold maxLen; omega) (by omega) ?_; intro ar2 cr2 w3 happ3 hb3 _)
        go_roundw
        case rel => exact ⟨j + 1, ar2, cr2, by omega, by go_num, by rw [HT.out, if_pos HE.out, List.length_append]; rfl, by rw [HT.out, if_pos HE.out]; exact happ3, (HB.out.trans ((below1 w2 _).mono (by omega))).trans hb3⟩
        case measure => simp [intOf]; omega
      · have hd : decide (l[j].2 = p) = false := by simp [he]
        have HE := Lib.hid he; clear he
        rw [hd]
        go_wp2_with fail
        go_roundw
        case rel => exact ⟨j + 1, ar, cr, by omega, by go_num, by rw [HT.out, if_neg HE.out, List.append_nil], by rw [HT.out, if_neg HE.out, List.append_nil]; exact HA.out, HB.out⟩
        case measure => simp [intOf]; omega
    · have hjj : l.length = j := by omega
      have HJ := Lib.hid (show l.take j = l from by rw [← hjj, List.take_length]); clear hjj
      go_wp2_with fail
      go_ret
      have hh := happ.own
      rw [HJ.out] at hh
      exact ⟨ar, cr, by rw [HJ.out]; rfl, hh, hb⟩
theorem impl_LossesAt (l : List Lo) (p : List St) (a a' : Option Addr) (cap cap' B : Nat) (w : World) (hr : Rd ELoss 2 w B a cap l) (hr' : Rd EStep 2 w B a' cap' p) (hz : l.length ≤ 1048576) (hB : B ≤ w.heap.size) :
    Calls Try.prog 31 #[.slice a l.length cap, .slice a' p.length cap'] w fun e w' => ∃ ar cr, e = .returned (.slice ar (atL l p).length cr) ∧ Ow EInt 1 w' w.heap.size w'.heap.size ar cr (atL l p) ∧ Below w.heap.size w w' := by
  obtain ⟨hl1, hl2⟩ := hr.len
  obtain ⟨hm1, hm2⟩ := hr'.len
  have h0 := App.empty (E := EInt) (n := 1) (e := 3) (nd := True) w w.heap.size (w.heap.size + 1) (Nat.le_refl _) (by omega)
  go_enter Try.func31, Try.ntmps31
  go_wp2_with fail
  go_loopw [5, 11, 7] (fun s i _ wr => ∃ (j : Nat) (ar : Option Addr) (cr : Nat), j ≤ l.length ∧ i = .int .i64 j ∧ s = .slice ar (atL (l.take j) p).length cr ∧ App EInt 1 3 True wr w.heap.size wr.heap.size ar cr (atL (l.take j) p) ∧ Below w.heap.size w wr) (fun _ i _ _ => l.length - (intOf i).toNat)
  case atStart => exact ⟨0, _, _, Nat.zero_le _, rfl, rfl, h0.more (Nat.le_refl _) (by simp), below1 _ _⟩
  case round =>
    obtain ⟨j, ar, cr, hj, rfl, rfl, happ, hb⟩ := hrel
    have hbs := hb.size
    by_cases hlt : j < l.length
    · obtain ⟨b, o, a2, cap2, rfl, hbl, d0, d1, hi, hq⟩ := (hr.below ELoss.loc hb hB).loss j hlt
      have HT := Lib.hid (atL_take_succ l p j hlt)
      have hlen := atL_take_len l p j
      have H1 := Lib.hid (below1 wr (.cells (cL l[j] a2 cap2) 46))
      have hI := Is.new wr (cL l[j] a2 cap2) 46
      go_wp2_with fail
      refine (slicesEqualStep l[j].2 p a2 a' cap2 cap' B _ (hq.below EStep.loc H1.out (by omega)) ((hr'.below EStep.loc hb hB).below EStep.loc H1.out (by omega)) (by simp; omega)).mono ?_
      rintro e w2 ⟨rfl, hb2⟩
      have hs2 := hb2.size
      have hs1 : wr.heap.size < w2.heap.size := by simp at hs2; omega
      obtain ⟨c0, c1⟩ := (hI.below hb2 (by simp)).cells2
      have H2 := Lib.hid (below_step H1.out hb2 (by simp)); clear hb2 hs2
      have HA := Lib.hid ((happ.below EInt.elem H2.out (Nat.le_refl _)).more (Nat.le_refl _) (Nat.le_of_lt hs1)); clear happ
      have HB := Lib.hid (hb.trans (H2.out.mono hbs))
      by_cases he : l[j].2 = p
      · have hd : decide (l[j].2 = p) = true := by simp [he]
        have HE := Lib.hid he; clear he
        rw [hd]
        have HN := Lib.hid (HA.out.below EInt.elem (below1 w2 (.cells #[.int .i64 l[j].1] 3)) (Nat.le_refl _))
        go_wp2_with (at_builtin; refine wpList_app EInt.elem rfl _ _ 56 rfl (.int .i64 0) 8 Try.underlying56 info_Int rfl w.heap.size w2.heap.size ar cr (atL (l.take j) p) rfl HN.out (by simp) (by simp; omega) w2.heap.size 0 1 1 [l[j].1] [] rfl rfl ⟨[], [], rfl, ⟨rfl, (Is.new w2 #[.int .i64 l[j].1] 3).cell 0 rfl, hi⟩, rfl⟩ (by simp) (by simp) (by simp) (by omega) (by unfold maxLen; omega) (by omega) ?_; intro ar2 cr2 w3 happ3 hb3 _)
        go_roundw
        case rel => exact ⟨j + 1, ar2, cr2, by omega, by go_num, by rw [HT.out, if_pos HE.out, List.length_append]; rfl, by rw [HT.out, if_pos HE.out]; exact happ3, (HB.out.trans ((below1 w2 _).mono (by omega))).trans hb3⟩
        case measure => simp [intOf]; omega
      · have hd : decide (l[j].2 = p) = false := by simp [he]
        have HE := Lib.hid he; clear he
        rw [hd]
        go_wp2_with fail
        go_roundw
        case rel => exact ⟨j + 1, ar, cr, by omega, by go_num, by rw [HT.out, if_neg HE.out, List.append_nil], by rw [HT.out, if_neg HE.out, List.append_nil]; exact HA.out, HB.out⟩
        case measure => simp [intOf]; omega
    · have hjj : l.length = j := by omega
      have HJ := Lib.hid (show l.take j = l from by rw [← hjj, List.take_length]); clear hjj
      go_wp2_with fail
      go_ret
      have hh := happ.own
      rw [HJ.out] at hh
      exact ⟨ar, cr, by rw [HJ.out]; rfl, hh, hb⟩
end Go.Proofs.Ytfbgmhjjdgglnaa
