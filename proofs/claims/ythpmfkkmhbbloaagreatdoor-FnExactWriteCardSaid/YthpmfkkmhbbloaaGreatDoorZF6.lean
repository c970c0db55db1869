/- Texts of this proof, merged: OwnS, Every. No condition beyond what each theorem states. -/
import Derived.Test.YthpmfkkmhbbloaaGreatDoorRows
import Derived.WalkKit
import Derived.ProofKit
import Derived.OpenShut
import Derived.Handy
import Derived.Lib.Hide
import Derived.Lib.SmallJoins
import Derived.Lib.ValidLaws
import Derived.Lib.ValidAsc
import Derived.Shelf.Unicode.ValidAny
import Derived.Lib.AppendIntMem
import Derived.Test.YthpmfkkmhbbloaaGreatDoorZF1
import Derived.Test.YthpmfkkmhbbloaaGreatDoorZF2
import Derived.Test.YthpmfkkmhbbloaaGreatDoorShelf
import Derived.Test.YthpmfkkmhbbloaaGreatDoorZF3
import Derived.Test.YthpmfkkmhbbloaaGreatDoorZF4
import Derived.Test.YthpmfkkmhbbloaaGreatDoorZF5
set_option linter.unusedSimpArgs false
set_option linter.unnecessarySimpa false
namespace Go.Proofs.YthpmfkkmhbbloaaGreatDoor
open Go.ChangeShapes Go.WideShapes Go.ChangeAt Go.RowKit Go.Joins
set_option linter.unusedVariables false
set_option maxRecDepth 100000
/-! ### A thing of all values of a tree -/
mutual
def allB (p : T → Bool) : T → Bool | .mk k n x s l => p (.mk k n x s l) && allBs p l
def allBs (p : T → Bool) : List T → Bool | [] => true | t :: r => allB p t && allBs p r
end
theorem allBs_all (p : T → Bool) (l : List T) : allBs p l = l.all (allB p) := by
  induction l with
  | nil => rfl
  | cons t r ih => simp [allBs, ih]
theorem allB_eq (p : T → Bool) (t : T) : allB p t = (p t && t.l.all (allB p)) := by
  cases t; simp only [allB, allBs_all, T.l]
theorem all_take_succ {α : Type} (p : α → Bool) (l : List α) (j : Nat) (h : j < l.length) : (l.take (j + 1)).all p = ((l.take j).all p && p l[j]) := by
  rw [take_snoc l j h, List.all_append]; simp
theorem all_false {α : Type} (p : α → Bool) (l : List α) (j : Nat) (h : j < l.length) (hp : p l[j] = false) : l.all p = false := by
  rw [List.all_eq_false]; exact ⟨l[j], List.getElem_mem h, by simp [hp]⟩
abbrev ownB (t : T) : Bool := decide (ownP t)
theorem sz_string (t : T) : t.s.size ≤ T.sz t := by cases t; simp only [T.s, T.sz]; omega
theorem sz_list (t : T) : T.szL t.l ≤ T.sz t := by cases t; simp only [T.l, T.sz]; omega
theorem sz_of (k n x : Int) (s : ByteArray) (l : List T) : T.sz (.mk k n x s l) = s.size + T.szL l := by simp only [T.sz]
theorem spec_l6Leaf (k n x : Int) (s : ByteArray) (a : Option Addr) (m cap : Nat) (w : World) (hlc : m ≤ cap) (hcap : cap ≤ 9223372036854775807) :
    Calls Tryz.prog 62 #[.agg #[.int .i64 k, .int .i64 n, .int .i64 x, .string s, .slice a m cap]] w fun e w' => e = .returned (.bool (decide (m = 0))) ∧ Below w.heap.size w w' := by
  by_cases h : m = 0
  · have h2 : (m : Int) = 0 := by omega
    have HD := Lib.hid (show decide (m = 0) = true from decide_eq_true h)
    rw [HD.out]; clear h HD
    go_enter Tryz.func62, Tryz.ntmps62
    go_wp2_with fail
    go_ret
    exact ⟨ret_b (by simp [h2]), below1 _ _⟩
  · have h2 : ¬ (m : Int) = 0 := by omega
    have HD := Lib.hid (show decide (m = 0) = false from decide_eq_false h)
    rw [HD.out]; clear h HD
    go_enter Tryz.func62, Tryz.ntmps62
    go_wp2_with fail
    go_ret
    exact ⟨ret_b (by simp; omega), below1 _ _⟩
set_option maxHeartbeats 16000000 in
theorem spec_ValOk : ∀ t : T, ∀ (a : Option Addr) (cap B : Nat) (w : World), R w B a cap t.l → Wf t → T.sz t ≤ 1048576 → B ≤ w.heap.size →
    Calls Tryz.prog 36 #[.agg (cV t a cap)] w fun e w' => e = .returned (.bool (allB ownB t)) ∧ Below w.heap.size w w' := by
  intro t
  induction t using T.ind with
  | h k n x s l ih =>
    intro a cap B w hr hwf hsz hB
    have IH := Lib.hid ih; clear ih
    obtain ⟨hk, hn, hx, _⟩ := hwf
    simp only [cV, T.k, T.n, T.x, T.s, T.l] at hr hk hn hx ⊢
    have HN := Lib.hid hn; have HX := Lib.hid hx
    obtain ⟨hk0, hk1⟩ := hk
    obtain ⟨hn0, hn1⟩ := hn
    obtain ⟨hx0, hx1⟩ := hx
    rw [sz_of] at hsz
    obtain ⟨hlc, hcap⟩ := hr.len
    have hss : s.size ≤ 4611686018427387903 := by omega
    have HR := Lib.hid hr; clear hr
    have HALL0 := Lib.hid (allB_eq ownB (.mk k n x s l))
    go_enter Tryz.func36, Tryz.ntmps36
    go_wp2_with fail
    generalize hW : w.alloc (Obj.cells #[Value.int IntKind.i64 k, Value.int IntKind.i64 n, Value.int IntKind.i64 x, Value.string s, Value.slice a l.length cap] 29) = W0
    have q1 : Is W0 w.heap.size 29 #[Value.int IntKind.i64 k, Value.int IntKind.i64 n, Value.int IntKind.i64 x, Value.string s, Value.slice a l.length cap] := by subst hW; exact Is.new _ _ _
    have H0 := Lib.hid (show Below w.heap.size w W0 from by subst hW; exact below1 _ _)
    have hs0 : W0.heap.size = w.heap.size + 1 := by subst hW; simp
    clear hW
    go_loopw [3] (fun i wr => ∃ (j : Nat), j ≤ l.length ∧ i = .int .i64 j ∧ Hid ((l.take j).all (allB ownB) = true) ∧ Below W0.heap.size W0 wr) (fun i _ => l.length - (intOf i).toNat)
    case atStart => exact ⟨0, Nat.zero_le _, rfl, rfl, Below.refl _ _⟩
    case round =>
      obtain ⟨j, hj, rfl, HA, hb⟩ := hrel
      have hbs := hb.size
      have hbox := q1.below hb (by omega)
      obtain ⟨x0, x1, x2, x3, x4⟩ := hbox.cells5
      have hlt2 : w.heap.size < wr.heap.size := by omega
      have HBw := Lib.hid (H0.out.trans (hb.mono (by omega)))
      by_cases hlt : j < l.length
      · obtain ⟨b, o, a2, cap2, rfl, hbl, d0, d1, d2, d3, d4, hwfj, hq⟩ := (HR.out.below HBw.out hB).get j hlt
        have hlb : b < wr.heap.size := by omega
        have hszj := T.sz_get l j hlt
        have HWF := Lib.hid hwfj; clear hwfj
        have HQ := Lib.hid hq; clear hq
        have HT := Lib.hid (all_take_succ (allB ownB) l j hlt)
        have HF := Lib.hid (all_false (allB ownB) l j hlt)
        go_wp2_with fail
        refine (IH.out l[j] (List.getElem_mem hlt) a2 cap2 B wr HQ.out HWF.out (by omega) (by omega)).mono ?_
        rintro e w2 ⟨rfl, hb2⟩
        cases hv : allB ownB l[j] with
        | false =>
          have HE := Lib.hid (show allB ownB (.mk k n x s l) = false from by rw [HALL0.out]; simp only [T.l]; rw [HF.out hv, Bool.and_false])
          clear HF HT hv
          go_wp2_with fail
          go_ret
          exact ⟨ret_b (by rw [HE.out]), HBw.out.trans (hb2.mono HBw.out.size)⟩
        | true =>
          have HE := Lib.hid (show (l.take (j + 1)).all (allB ownB) = true from by rw [HT.out, HA.out, hv]; rfl)
          clear HF HT hv
          go_wp2_with fail
          go_roundw
          case rel => exact ⟨j + 1, by omega, by go_num, HE.out, hb.trans (hb2.mono hbs)⟩
          case measure => simp [intOf]; omega
      · have hjj : l.length = j := by omega
        have HJ := Lib.hid (show l.take j = l from by rw [← hjj, List.take_length]); clear hjj
        have HALL := Lib.hid (show allB ownB (.mk k n x s l) = decide (ownQ k n x s l.length) from by rw [HALL0.out]; simp only [T.l]; rw [show l.all (allB ownB) = true from by rw [← HJ.out]; exact HA.out, Bool.and_true]; rfl)
        have hacc := HBw.out
        obtain ⟨lf, hlf⟩ : ∃ lf, decide (l.length = 0) = lf := ⟨_, rfl⟩
        have HLF := Lib.hid hlf; clear hlf
        have hcases : k = 1 ∨ k = 2 ∨ k = 3 ∨ k = 4 ∨ k = 5 ∨ k = 6 ∨ k = 7 ∨ k = 8 ∨ k = 9 ∨ k = 10 ∨ k = 11 ∨ (k < 1 ∨ 11 < k) := by omega
        clear HA HJ IH HR HALL0 hb q1 H0 hs0
        obtain rfl | rfl | rfl | rfl | rfl | rfl | rfl | rfl | rfl | rfl | rfl | hko := hcases
        · go_wp2_with (go_at_call 62; refine (spec_l6Leaf _ _ _ _ _ _ _ _ hlc hcap).mono ?_; rintro e w2 ⟨rfl, hb⟩; rw [HLF.out]; replace hacc := below_step hacc hb hacc.size)
          all_goals
            go_ret
            refine ⟨ret_b ?_, hacc⟩
            rw [HALL.out]
            first | (exact (decide_eq_false (fun h => absurd ((own1 n x s l.length).1 h).1 (by assumption))).symm) | (exact (decide_eq_false (fun h => by have g := (own1 n x s l.length).1 h; have g2 := g.2.1; have g3 := g.2.2.1; have g4 := g.2.2.2; omega)).symm) | (exact (decide_eq_true ((own1 n x s l.length).2 ⟨by assumption, by omega, by omega, by omega⟩)).symm) | (exact HLF.out.symm.trans (decide_eq_decide.2 ((own1 n x s l.length).trans ⟨fun h => by have g := h; have g2 := g.2.1; have g3 := g.2.2.1; have g4 := g.2.2.2; omega, fun h => ⟨by assumption, by omega, by omega, by omega⟩⟩)).symm) | (exact (decide_eq_decide.2 ((own1 n x s l.length).trans ⟨fun h => by have g := h; have g2 := g.2.1; have g3 := g.2.2.1; have g4 := g.2.2.2; omega, fun h => ⟨by assumption, by omega, by omega, by omega⟩⟩)).symm) | (exact Bool.eq_iff_iff.2 ⟨fun h => decide_eq_true ((own1 n x s l.length).2 ⟨by simpa using h, by omega, by omega, by omega⟩), fun h => by have g := (own1 n x s l.length).1 (of_decide_eq_true h); have g2 := g.2.1; have g3 := g.2.2.1; have g4 := g.2.2.2; first | (simpa using g.1) | (simp; omega)⟩)
        · obtain ⟨bb, hbb⟩ : ∃ bb, decide ((0 : Int) ≤ n ∧ n ≤ 1) = bb := ⟨_, rfl⟩
          rcases bb with _ | _
          all_goals (have HBB := Lib.hid hbb; clear hbb)
          all_goals go_wp2_with (first | ((go_at_call 63; refine (spec_l1In _ _ _ _).mono ?_); rintro e w2 ⟨rfl, hb⟩; rw [HBB.out]; replace hacc := below_step hacc hb hacc.size; replace hbox := hbox.below hb hlt2; obtain ⟨r0, r1, r2, r3, r4⟩ := hbox.cells5; have hlt2 := Nat.lt_of_lt_of_le hlt2 hb.size; clear hb) | (go_at_call 62; refine (spec_l6Leaf _ _ _ _ _ _ _ _ hlc hcap).mono ?_; rintro e w2 ⟨rfl, hb⟩; rw [HLF.out]; replace hacc := below_step hacc hb hacc.size))
          all_goals
            go_ret
            refine ⟨ret_b ?_, hacc⟩
            rw [HALL.out]
            first | (exact (decide_eq_false (fun h => absurd ((own2 n x s l.length).1 h).1 (by assumption))).symm) | (exact (decide_eq_false (fun h => by have g1 := of_decide_eq_false HBB.out; have g2 := (own2 n x s l.length).1 h; omega)).symm) | (exact (decide_eq_false (fun h => by have g := (own2 n x s l.length).1 h; have g2 := g.2.1; have g3 := g.2.2.1; have g4 := g.2.2.2; omega)).symm) | (exact (decide_eq_true ((own2 n x s l.length).2 ⟨by assumption, by omega, by omega, by have g := of_decide_eq_true HBB.out; omega⟩)).symm) | (exact HLF.out.symm.trans (decide_eq_decide.2 ((own2 n x s l.length).trans ⟨fun h => by have g := h; have g2 := g.2.1; have g3 := g.2.2.1; have g4 := g.2.2.2; omega, fun h => ⟨by assumption, by omega, by omega, by have g := of_decide_eq_true HBB.out; omega⟩⟩)).symm) | (exact (decide_eq_decide.2 ((own2 n x s l.length).trans ⟨fun h => by have g := h; have g2 := g.2.1; have g3 := g.2.2.1; have g4 := g.2.2.2; omega, fun h => ⟨by assumption, by omega, by omega, by have g := of_decide_eq_true HBB.out; omega⟩⟩)).symm) | (exact Bool.eq_iff_iff.2 ⟨fun h => decide_eq_true ((own2 n x s l.length).2 ⟨by simpa using h, by omega, by omega, by have g := of_decide_eq_true HBB.out; omega⟩), fun h => by have g := (own2 n x s l.length).1 (of_decide_eq_true h); have g2 := g.2.1; have g3 := g.2.2.1; have g4 := g.2.2.2; first | (simpa using g.1) | (simp; omega)⟩)
        · obtain ⟨bb, hbb⟩ : ∃ bb, decide ((-1000000000000000 : Int) ≤ n ∧ n ≤ 1000000000000000) = bb := ⟨_, rfl⟩
          rcases bb with _ | _
          all_goals (have HBB := Lib.hid hbb; clear hbb)
          all_goals go_wp2_with (first | ((go_at_call 63; refine (spec_l1In _ _ _ _).mono ?_); rintro e w2 ⟨rfl, hb⟩; rw [HBB.out]; replace hacc := below_step hacc hb hacc.size; replace hbox := hbox.below hb hlt2; obtain ⟨r0, r1, r2, r3, r4⟩ := hbox.cells5; have hlt2 := Nat.lt_of_lt_of_le hlt2 hb.size; clear hb) | (go_at_call 62; refine (spec_l6Leaf _ _ _ _ _ _ _ _ hlc hcap).mono ?_; rintro e w2 ⟨rfl, hb⟩; rw [HLF.out]; replace hacc := below_step hacc hb hacc.size))
          all_goals
            go_ret
            refine ⟨ret_b ?_, hacc⟩
            rw [HALL.out]
            first | (exact (decide_eq_false (fun h => absurd ((own3 n x s l.length).1 h).1 (by assumption))).symm) | (exact (decide_eq_false (fun h => by have g1 := of_decide_eq_false HBB.out; have g2 := (own3 n x s l.length).1 h; omega)).symm) | (exact (decide_eq_false (fun h => by have g := (own3 n x s l.length).1 h; have g2 := g.2.1; have g3 := g.2.2.1; omega)).symm) | (exact (decide_eq_true ((own3 n x s l.length).2 ⟨by assumption, by omega, by omega, by have g := of_decide_eq_true HBB.out; omega⟩)).symm) | (exact HLF.out.symm.trans (decide_eq_decide.2 ((own3 n x s l.length).trans ⟨fun h => by have g := h; have g2 := g.2.1; have g3 := g.2.2.1; omega, fun h => ⟨by assumption, by omega, by omega, by have g := of_decide_eq_true HBB.out; omega⟩⟩)).symm) | (exact (decide_eq_decide.2 ((own3 n x s l.length).trans ⟨fun h => by have g := h; have g2 := g.2.1; have g3 := g.2.2.1; omega, fun h => ⟨by assumption, by omega, by omega, by have g := of_decide_eq_true HBB.out; omega⟩⟩)).symm) | (exact Bool.eq_iff_iff.2 ⟨fun h => decide_eq_true ((own3 n x s l.length).2 ⟨by simpa using h, by omega, by omega, by have g := of_decide_eq_true HBB.out; omega⟩), fun h => by have g := (own3 n x s l.length).1 (of_decide_eq_true h); have g2 := g.2.1; have g3 := g.2.2.1; first | (simpa using g.1) | (simp; omega)⟩)
        · obtain ⟨bb, hbb⟩ : ∃ bb, decide (fltOk n x) = bb := ⟨_, rfl⟩
          rcases bb with _ | _
          all_goals (have HBB := Lib.hid hbb; clear hbb)
          all_goals go_wp2_with (first | ((go_at_call 64; refine (spec_FltOk _ _ _ HN.out HX.out).mono ?_); rintro e w2 ⟨rfl, hb⟩; rw [HBB.out]; replace hacc := below_step hacc hb hacc.size; replace hbox := hbox.below hb hlt2; obtain ⟨r0, r1, r2, r3, r4⟩ := hbox.cells5; have hlt2 := Nat.lt_of_lt_of_le hlt2 hb.size; clear hb) | (go_at_call 62; refine (spec_l6Leaf _ _ _ _ _ _ _ _ hlc hcap).mono ?_; rintro e w2 ⟨rfl, hb⟩; rw [HLF.out]; replace hacc := below_step hacc hb hacc.size))
          all_goals
            go_ret
            refine ⟨ret_b ?_, hacc⟩
            rw [HALL.out]
            first | (exact (decide_eq_false (fun h => absurd ((own4 n x s l.length).1 h).1 (by assumption))).symm) | (exact (decide_eq_false (fun h => by exact absurd ((own4 n x s l.length).1 h).2.2 (of_decide_eq_false HBB.out))).symm) | (exact (decide_eq_false (fun h => by have g := (own4 n x s l.length).1 h; have g2 := g.2.1; omega)).symm) | (exact (decide_eq_true ((own4 n x s l.length).2 ⟨by assumption, by omega, of_decide_eq_true HBB.out⟩)).symm) | (exact HLF.out.symm.trans (decide_eq_decide.2 ((own4 n x s l.length).trans ⟨fun h => by have g := h; have g2 := g.2.1; omega, fun h => ⟨by assumption, by omega, of_decide_eq_true HBB.out⟩⟩)).symm) | (exact (decide_eq_decide.2 ((own4 n x s l.length).trans ⟨fun h => by have g := h; have g2 := g.2.1; omega, fun h => ⟨by assumption, by omega, of_decide_eq_true HBB.out⟩⟩)).symm) | (exact Bool.eq_iff_iff.2 ⟨fun h => decide_eq_true ((own4 n x s l.length).2 ⟨by simpa using h, by omega, of_decide_eq_true HBB.out⟩), fun h => by have g := (own4 n x s l.length).1 (of_decide_eq_true h); have g2 := g.2.1; first | (simpa using g.1) | (simp; omega)⟩)
        · obtain ⟨bb, hbb⟩ : ∃ bb, decide ((0 : Int) ≤ n ∧ n ≤ 2) = bb := ⟨_, rfl⟩
          rcases bb with _ | _
          all_goals (have HBB := Lib.hid hbb; clear hbb)
          all_goals go_wp2_with (first | ((go_at_call 63; refine (spec_l1In _ _ _ _).mono ?_); rintro e w2 ⟨rfl, hb⟩; rw [HBB.out]; replace hacc := below_step hacc hb hacc.size; replace hbox := hbox.below hb hlt2; obtain ⟨r0, r1, r2, r3, r4⟩ := hbox.cells5; have hlt2 := Nat.lt_of_lt_of_le hlt2 hb.size; clear hb) | (go_at_call 62; refine (spec_l6Leaf _ _ _ _ _ _ _ _ hlc hcap).mono ?_; rintro e w2 ⟨rfl, hb⟩; rw [HLF.out]; replace hacc := below_step hacc hb hacc.size))
          all_goals
            go_ret
            refine ⟨ret_b ?_, hacc⟩
            rw [HALL.out]
            first | (exact (decide_eq_false (fun h => absurd ((own5 n x s l.length).1 h).1 (by assumption))).symm) | (exact (decide_eq_false (fun h => by have g1 := of_decide_eq_false HBB.out; have g2 := (own5 n x s l.length).1 h; omega)).symm) | (exact (decide_eq_false (fun h => by have g := (own5 n x s l.length).1 h; have g2 := g.2.1; have g3 := g.2.2.1; omega)).symm) | (exact (decide_eq_true ((own5 n x s l.length).2 ⟨by assumption, by omega, by omega, by have g := of_decide_eq_true HBB.out; omega⟩)).symm) | (exact HLF.out.symm.trans (decide_eq_decide.2 ((own5 n x s l.length).trans ⟨fun h => by have g := h; have g2 := g.2.1; have g3 := g.2.2.1; omega, fun h => ⟨by assumption, by omega, by omega, by have g := of_decide_eq_true HBB.out; omega⟩⟩)).symm) | (exact (decide_eq_decide.2 ((own5 n x s l.length).trans ⟨fun h => by have g := h; have g2 := g.2.1; have g3 := g.2.2.1; omega, fun h => ⟨by assumption, by omega, by omega, by have g := of_decide_eq_true HBB.out; omega⟩⟩)).symm) | (exact Bool.eq_iff_iff.2 ⟨fun h => decide_eq_true ((own5 n x s l.length).2 ⟨by simpa using h, by omega, by omega, by have g := of_decide_eq_true HBB.out; omega⟩), fun h => by have g := (own5 n x s l.length).1 (of_decide_eq_true h); have g2 := g.2.1; have g3 := g.2.2.1; first | (simpa using g.1) | (simp; omega)⟩)
        · obtain ⟨bb, hbb⟩ : ∃ bb, decide (decOk n x) = bb := ⟨_, rfl⟩
          rcases bb with _ | _
          all_goals (have HBB := Lib.hid hbb; clear hbb)
          all_goals go_wp2_with (first | ((go_at_call 65; refine (spec_DecOk _ _ _ HN.out HX.out).mono ?_); rintro e w2 ⟨rfl, hb⟩; rw [HBB.out]; replace hacc := below_step hacc hb hacc.size; replace hbox := hbox.below hb hlt2; obtain ⟨r0, r1, r2, r3, r4⟩ := hbox.cells5; have hlt2 := Nat.lt_of_lt_of_le hlt2 hb.size; clear hb) | (go_at_call 62; refine (spec_l6Leaf _ _ _ _ _ _ _ _ hlc hcap).mono ?_; rintro e w2 ⟨rfl, hb⟩; rw [HLF.out]; replace hacc := below_step hacc hb hacc.size))
          all_goals
            go_ret
            refine ⟨ret_b ?_, hacc⟩
            rw [HALL.out]
            first | (exact (decide_eq_false (fun h => absurd ((own6 n x s l.length).1 h).1 (by assumption))).symm) | (exact (decide_eq_false (fun h => by exact absurd ((own6 n x s l.length).1 h).2.2.2 (of_decide_eq_false HBB.out))).symm) | (exact (decide_eq_false (fun h => by have g := (own6 n x s l.length).1 h; have g2 := g.2.1; have g4 := g.2.2.1; omega)).symm) | (exact (decide_eq_true ((own6 n x s l.length).2 ⟨by assumption, by omega, ⟨by omega, of_decide_eq_true HBB.out⟩⟩)).symm) | (exact HLF.out.symm.trans (decide_eq_decide.2 ((own6 n x s l.length).trans ⟨fun h => by have g := h; have g2 := g.2.1; have g4 := g.2.2.1; omega, fun h => ⟨by assumption, by omega, ⟨by omega, of_decide_eq_true HBB.out⟩⟩⟩)).symm) | (exact (decide_eq_decide.2 ((own6 n x s l.length).trans ⟨fun h => by have g := h; have g2 := g.2.1; have g4 := g.2.2.1; omega, fun h => ⟨by assumption, by omega, ⟨by omega, of_decide_eq_true HBB.out⟩⟩⟩)).symm) | (exact Bool.eq_iff_iff.2 ⟨fun h => decide_eq_true ((own6 n x s l.length).2 ⟨by simpa using h, by omega, ⟨by omega, of_decide_eq_true HBB.out⟩⟩), fun h => by have g := (own6 n x s l.length).1 (of_decide_eq_true h); have g2 := g.2.1; have g4 := g.2.2.1; first | (simpa using g.1) | (simp; omega)⟩)
        · obtain ⟨bb, hbb⟩ : ∃ bb, Lib.validD s.data.toList = bb := ⟨_, rfl⟩
          rcases bb with _ | _
          all_goals (have HBB := Lib.hid hbb; clear hbb)
          all_goals go_wp2_with (first | ((go_at_call 66; refine (spec_TextOk _ _ hss).mono ?_); rintro e w2 ⟨rfl, hb⟩; rw [HBB.out]; replace hacc := below_step hacc hb hacc.size; replace hbox := hbox.below hb hlt2; obtain ⟨r0, r1, r2, r3, r4⟩ := hbox.cells5; have hlt2 := Nat.lt_of_lt_of_le hlt2 hb.size; clear hb) | (go_at_call 62; refine (spec_l6Leaf _ _ _ _ _ _ _ _ hlc hcap).mono ?_; rintro e w2 ⟨rfl, hb⟩; rw [HLF.out]; replace hacc := below_step hacc hb hacc.size))
          all_goals
            go_ret
            refine ⟨ret_b ?_, hacc⟩
            rw [HALL.out]
            first | (exact (decide_eq_false (fun h => by exact absurd (((own7 n x s l.length).1 h).2.2.2.symm.trans HBB.out) (by decide))).symm) | (exact (decide_eq_false (fun h => by have g := (own7 n x s l.length).1 h; have g2 := g.1; have g3 := g.2.1; have g4 := g.2.2.1; omega)).symm) | (exact (decide_eq_true ((own7 n x s l.length).2 ⟨by omega, by omega, ⟨by omega, HBB.out⟩⟩)).symm) | (exact HLF.out.symm.trans (decide_eq_decide.2 ((own7 n x s l.length).trans ⟨fun h => by have g := h; have g2 := g.1; have g3 := g.2.1; have g4 := g.2.2.1; omega, fun h => ⟨by omega, by omega, ⟨by omega, HBB.out⟩⟩⟩)).symm) | (exact (decide_eq_decide.2 ((own7 n x s l.length).trans ⟨fun h => by have g := h; have g2 := g.1; have g3 := g.2.1; have g4 := g.2.2.1; omega, fun h => ⟨by omega, by omega, ⟨by omega, HBB.out⟩⟩⟩)).symm) | (exact Bool.eq_iff_iff.2 ⟨fun h => decide_eq_true ((own7 n x s l.length).2 ⟨by omega, by omega, ⟨by omega, HBB.out⟩⟩), fun h => by have g := (own7 n x s l.length).1 (of_decide_eq_true h); have g2 := g.1; have g3 := g.2.1; have g4 := g.2.2.1; first | (simpa using g.1) | (simp; omega)⟩)
        · go_wp2_with (go_at_call 62; refine (spec_l6Leaf _ _ _ _ _ _ _ _ hlc hcap).mono ?_; rintro e w2 ⟨rfl, hb⟩; rw [HLF.out]; replace hacc := below_step hacc hb hacc.size)
          all_goals
            go_ret
            refine ⟨ret_b ?_, hacc⟩
            rw [HALL.out]
            first | (exact (decide_eq_false (fun h => by have g := (own8 n x s l.length).1 h; have g2 := g.1; have g3 := g.2.1; have g4 := g.2.2; omega)).symm) | (exact (decide_eq_true ((own8 n x s l.length).2 ⟨by omega, by omega, by omega⟩)).symm) | (exact HLF.out.symm.trans (decide_eq_decide.2 ((own8 n x s l.length).trans ⟨fun h => by have g := h; have g2 := g.1; have g3 := g.2.1; have g4 := g.2.2; omega, fun h => ⟨by omega, by omega, by omega⟩⟩)).symm) | (exact (decide_eq_decide.2 ((own8 n x s l.length).trans ⟨fun h => by have g := h; have g2 := g.1; have g3 := g.2.1; have g4 := g.2.2; omega, fun h => ⟨by omega, by omega, by omega⟩⟩)).symm) | (exact Bool.eq_iff_iff.2 ⟨fun h => decide_eq_true ((own8 n x s l.length).2 ⟨by omega, by omega, by omega⟩), fun h => by have g := (own8 n x s l.length).1 (of_decide_eq_true h); have g2 := g.1; have g3 := g.2.1; have g4 := g.2.2; first | (simpa using g.1) | (simp; omega)⟩)
        · go_wp2_with fail
          all_goals
            go_ret
            refine ⟨ret_b ?_, hacc⟩
            rw [HALL.out]
            first | (exact (decide_eq_false (fun h => absurd ((own9 n x s l.length).1 h).1 (by assumption))).symm) | (exact (decide_eq_false (fun h => by have g := (own9 n x s l.length).1 h; have g2 := g.2.1; have g4 := g.2.2; omega)).symm) | (exact (decide_eq_true ((own9 n x s l.length).2 ⟨by assumption, by omega, by omega⟩)).symm) | (exact HLF.out.symm.trans (decide_eq_decide.2 ((own9 n x s l.length).trans ⟨fun h => by have g := h; have g2 := g.2.1; have g4 := g.2.2; omega, fun h => ⟨by assumption, by omega, by omega⟩⟩)).symm) | (exact (decide_eq_decide.2 ((own9 n x s l.length).trans ⟨fun h => by have g := h; have g2 := g.2.1; have g4 := g.2.2; omega, fun h => ⟨by assumption, by omega, by omega⟩⟩)).symm) | (exact Bool.eq_iff_iff.2 ⟨fun h => decide_eq_true ((own9 n x s l.length).2 ⟨by simpa using h, by omega, by omega⟩), fun h => by have g := (own9 n x s l.length).1 (of_decide_eq_true h); have g2 := g.2.1; have g4 := g.2.2; first | (simpa using g.1) | (simp; omega)⟩)
        · go_wp2_with fail
          all_goals
            go_ret
            refine ⟨ret_b ?_, hacc⟩
            rw [HALL.out]
            first | (exact (decide_eq_false (fun h => absurd ((own10 n x s l.length).1 h).1 (by assumption))).symm) | (exact (decide_eq_false (fun h => by have g := (own10 n x s l.length).1 h; have g2 := g.2.1; have g4 := g.2.2.1; have g5 := g.2.2.2; omega)).symm) | (exact (decide_eq_true ((own10 n x s l.length).2 ⟨by assumption, by omega, ⟨by omega, by omega⟩⟩)).symm) | (exact HLF.out.symm.trans (decide_eq_decide.2 ((own10 n x s l.length).trans ⟨fun h => by have g := h; have g2 := g.2.1; have g4 := g.2.2.1; have g5 := g.2.2.2; omega, fun h => ⟨by assumption, by omega, ⟨by omega, by omega⟩⟩⟩)).symm) | (exact (decide_eq_decide.2 ((own10 n x s l.length).trans ⟨fun h => by have g := h; have g2 := g.2.1; have g4 := g.2.2.1; have g5 := g.2.2.2; omega, fun h => ⟨by assumption, by omega, ⟨by omega, by omega⟩⟩⟩)).symm) | (exact Bool.eq_iff_iff.2 ⟨fun h => decide_eq_true ((own10 n x s l.length).2 ⟨by simpa using h, by omega, ⟨by omega, by omega⟩⟩), fun h => by have g := (own10 n x s l.length).1 (of_decide_eq_true h); have g2 := g.2.1; have g4 := g.2.2.1; have g5 := g.2.2.2; first | (simpa using g.1) | (simp; omega)⟩)
        · obtain ⟨bb, hbb⟩ : ∃ bb, decide ((0 : Int) ≤ n ∧ n ≤ 1000000000000000) = bb := ⟨_, rfl⟩
          rcases bb with _ | _
          all_goals (have HBB := Lib.hid hbb; clear hbb)
          all_goals go_wp2_with (first | ((go_at_call 63; refine (spec_l1In _ _ _ _).mono ?_); rintro e w2 ⟨rfl, hb⟩; rw [HBB.out]; replace hacc := below_step hacc hb hacc.size; replace hbox := hbox.below hb hlt2; obtain ⟨r0, r1, r2, r3, r4⟩ := hbox.cells5; have hlt2 := Nat.lt_of_lt_of_le hlt2 hb.size; clear hb) | (go_at_call 62; refine (spec_l6Leaf _ _ _ _ _ _ _ _ hlc hcap).mono ?_; rintro e w2 ⟨rfl, hb⟩; rw [HLF.out]; replace hacc := below_step hacc hb hacc.size))
          all_goals
            go_ret
            refine ⟨ret_b ?_, hacc⟩
            rw [HALL.out]
            first | (exact (decide_eq_false (fun h => absurd ((own11 n x s l.length).1 h).1 (by assumption))).symm) | (exact (decide_eq_false (fun h => by exact absurd ((own11 n x s l.length).1 h).2.2.1 (of_decide_eq_false HBB.out))).symm) | (exact (decide_eq_false (fun h => by have g := (own11 n x s l.length).1 h; have g2 := g.2.1; have g4 := g.2.2.2; omega)).symm) | (exact (decide_eq_true ((own11 n x s l.length).2 ⟨by assumption, by omega, ⟨of_decide_eq_true HBB.out, by omega⟩⟩)).symm) | (exact HLF.out.symm.trans (decide_eq_decide.2 ((own11 n x s l.length).trans ⟨fun h => by have g := h; have g2 := g.2.1; have g4 := g.2.2.2; omega, fun h => ⟨by assumption, by omega, ⟨of_decide_eq_true HBB.out, by omega⟩⟩⟩)).symm) | (exact (decide_eq_decide.2 ((own11 n x s l.length).trans ⟨fun h => by have g := h; have g2 := g.2.1; have g4 := g.2.2.2; omega, fun h => ⟨by assumption, by omega, ⟨of_decide_eq_true HBB.out, by omega⟩⟩⟩)).symm) | (exact Bool.eq_iff_iff.2 ⟨fun h => decide_eq_true ((own11 n x s l.length).2 ⟨by simpa using h, by omega, ⟨of_decide_eq_true HBB.out, by omega⟩⟩), fun h => by have g := (own11 n x s l.length).1 (of_decide_eq_true h); have g2 := g.2.1; have g4 := g.2.2.2; first | (simpa using g.1) | (simp; omega)⟩)
        · go_wp2_with fail
          go_ret
          exact ⟨ret_b (by rw [HALL.out]; exact (decide_eq_false (ownQ_out _ _ _ _ _ hko)).symm), hacc⟩
end Go.Proofs.YthpmfkkmhbbloaaGreatDoor
namespace Go.Proofs.YthpmfkkmhbbloaaGreatDoor
open Go.ChangeShapes Go.WideShapes Go.ChangeAt Go.RowKit Go.Joins
set_option linter.unusedVariables false
set_option maxRecDepth 100000
theorem any_take_succ {α : Type} (p : α → Bool) (l : List α) (j : Nat) (h : j < l.length) : (l.take (j + 1)).any p = ((l.take j).any p || p l[j]) := by
  rw [take_snoc l j h, List.any_append]; simp
theorem any_true {α : Type} (p : α → Bool) (l : List α) (j : Nat) (h : j < l.length) (hp : p l[j] = true) : l.any p = true := by
  rw [List.any_eq_true]; exact ⟨l[j], List.getElem_mem h, hp⟩
theorem any_not_all {α : Type} (p : α → Bool) (l : List α) : (!l.any fun x => !p x) = l.all p := by
  rw [List.all_eq_not_any_not]
set_option maxHeartbeats 1000000 in
theorem idx_every_1 (p : T → Bool) (g : Nat) (l : List T) (a : Option Addr) (cap B : Nat) (w : World) (hr : R w B a cap l) (hB : B ≤ w.heap.size)
    (hp : ∀ t ∈ l, ∀ (a : Option Addr) (cap : Nat) (w' : World), Below w.heap.size w w' → R w' B a cap t.l → Wf t → Calls Tryz.prog 74 #[.agg (cV t a cap), .pointer (some ⟨g, 0, none⟩)] w' fun e v => e = .returned (.bool (p t)) ∧ Below w'.heap.size w' v) :
    Calls Tryz.prog 107 #[.slice a l.length cap, .func (.func 74) #[] #[.pointer (some ⟨g, 0, none⟩)]] w fun e w' => (∃ r : Int, e = .returned (.int .i64 r) ∧ decide (0 ≤ r) = l.any p) ∧ Below w.heap.size w w' := by
  obtain ⟨hl1, hl2⟩ := hr.len
  have HR := Lib.hid hr; clear hr
  have HP := Lib.hid hp; clear hp
  go_enter Tryz.func107, Tryz.ntmps107
  go_wp2_with fail
  go_loopw [8, 5] (fun i _ wr => ∃ (j : Nat), j ≤ l.length ∧ i = .int .i64 j ∧ Hid ((l.take j).any p = false) ∧ Below w.heap.size w wr) (fun i _ _ => l.length - (intOf i).toNat)
  case atStart => exact ⟨0, Nat.zero_le _, rfl, rfl, Below.refl _ _⟩
  case round =>
    obtain ⟨j, hj, rfl, HA, hb⟩ := hrel
    have hbs := hb.size
    by_cases hlt : j < l.length
    · obtain ⟨b, o, a2, cap2, rfl, hbl, d0, d1, d2, d3, d4, hwf, hq⟩ := (HR.out.below hb hB).get j hlt
      have l1 : b < wr.heap.size := by omega
      have HW := Lib.hid hwf; clear hwf
      have HQ := Lib.hid hq; clear hq
      have HB := Lib.hid hb
      go_wp2_with fail
      refine (HP.out l[j] (List.getElem_mem hlt) a2 cap2 wr HB.out HQ.out HW.out).mono ?_
      rintro e w2 ⟨rfl, hb2⟩
      cases hv : p l[j] with
      | false =>
        have HE := Lib.hid (show (l.take (j + 1)).any p = false from by rw [any_take_succ p l j hlt, HA.out, hv]; rfl)
        clear hv
        go_wp2_with fail
        go_roundw
        case rel => exact ⟨j + 1, by omega, by go_num, HE.out, hb.trans (hb2.mono hbs)⟩
        case measure => simp [intOf]; omega
      | true =>
        have HE := Lib.hid (any_true p l j hlt hv)
        clear hv
        go_wp2_with fail
        go_ret
        exact ⟨⟨j, rfl, by rw [HE.out]; first | done | exact decide_eq_true (by omega)⟩, hb.trans (hb2.mono hbs)⟩
    · have hjj : l.length = j := by omega
      have HE := Lib.hid (show l.any p = false from by rw [← HA.out, ← hjj, List.take_length]); clear hjj
      go_wp2_with fail
      go_ret
      exact ⟨⟨-1, rfl, by rw [HE.out]; rfl⟩, hb⟩
theorem has_every_1 (p : T → Bool) (g : Nat) (l : List T) (a : Option Addr) (cap B : Nat) (w : World) (hr : R w B a cap l) (hB : B ≤ w.heap.size)
    (hp : ∀ t ∈ l, ∀ (a : Option Addr) (cap : Nat) (w' : World), Below w.heap.size w w' → R w' B a cap t.l → Wf t → Calls Tryz.prog 74 #[.agg (cV t a cap), .pointer (some ⟨g, 0, none⟩)] w' fun e v => e = .returned (.bool (p t)) ∧ Below w'.heap.size w' v) :
    Calls Tryz.prog 73 #[.slice a l.length cap, .func (.func 74) #[] #[.pointer (some ⟨g, 0, none⟩)]] w fun e w' => e = .returned (.bool (l.any p)) ∧ Below w.heap.size w w' := by
  have cI := idx_every_1 p g l a cap B w hr hB hp
  generalize l.any p = r at *
  have CI := Lib.hid cI; clear cI hp hr
  go_enter Tryz.func73, Tryz.ntmps73
  go_wp2_with fail
  refine CI.out.mono ?_
  rintro e w2 ⟨⟨i, rfl, hi⟩, hb⟩
  cases r with
  | false =>
    have hi2 : ¬ 0 ≤ i := of_decide_eq_false hi
    clear hi
    go_wp2_with fail
    go_ret
    exact ⟨ret_b (by first | (simp; done) | (simp; omega)), hb⟩
  | true =>
    have hi2 : 0 ≤ i := of_decide_eq_true hi
    clear hi
    go_wp2_with fail
    go_ret
    exact ⟨ret_b (by first | (simp; done) | (simp; omega)), hb⟩
set_option maxHeartbeats 1000000 in
theorem idx_textNames_1 (p : T → Bool) (l : List T) (a : Option Addr) (cap B : Nat) (w : World) (hr : R w B a cap l) (hB : B ≤ w.heap.size)
    (hp : ∀ t ∈ l, ∀ (a : Option Addr) (cap : Nat) (w' : World), Below w.heap.size w w' → R w' B a cap t.l → Wf t → Calls Tryz.prog 75 #[.agg (cV t a cap)] w' fun e v => e = .returned (.bool (p t)) ∧ Below w'.heap.size w' v) :
    Calls Tryz.prog 107 #[.slice a l.length cap, .func (.func 75) #[] #[]] w fun e w' => (∃ r : Int, e = .returned (.int .i64 r) ∧ decide (0 ≤ r) = l.any p) ∧ Below w.heap.size w w' := by
  obtain ⟨hl1, hl2⟩ := hr.len
  have HR := Lib.hid hr; clear hr
  have HP := Lib.hid hp; clear hp
  go_enter Tryz.func107, Tryz.ntmps107
  go_wp2_with fail
  go_loopw [8, 5] (fun i _ wr => ∃ (j : Nat), j ≤ l.length ∧ i = .int .i64 j ∧ Hid ((l.take j).any p = false) ∧ Below w.heap.size w wr) (fun i _ _ => l.length - (intOf i).toNat)
  case atStart => exact ⟨0, Nat.zero_le _, rfl, rfl, Below.refl _ _⟩
  case round =>
    obtain ⟨j, hj, rfl, HA, hb⟩ := hrel
    have hbs := hb.size
    by_cases hlt : j < l.length
    · obtain ⟨b, o, a2, cap2, rfl, hbl, d0, d1, d2, d3, d4, hwf, hq⟩ := (HR.out.below hb hB).get j hlt
      have l1 : b < wr.heap.size := by omega
      have HW := Lib.hid hwf; clear hwf
      have HQ := Lib.hid hq; clear hq
      have HB := Lib.hid hb
      go_wp2_with fail
      refine (HP.out l[j] (List.getElem_mem hlt) a2 cap2 wr HB.out HQ.out HW.out).mono ?_
      rintro e w2 ⟨rfl, hb2⟩
      cases hv : p l[j] with
      | false =>
        have HE := Lib.hid (show (l.take (j + 1)).any p = false from by rw [any_take_succ p l j hlt, HA.out, hv]; rfl)
        clear hv
        go_wp2_with fail
        go_roundw
        case rel => exact ⟨j + 1, by omega, by go_num, HE.out, hb.trans (hb2.mono hbs)⟩
        case measure => simp [intOf]; omega
      | true =>
        have HE := Lib.hid (any_true p l j hlt hv)
        clear hv
        go_wp2_with fail
        go_ret
        exact ⟨⟨j, rfl, by rw [HE.out]; first | done | exact decide_eq_true (by omega)⟩, hb.trans (hb2.mono hbs)⟩
    · have hjj : l.length = j := by omega
      have HE := Lib.hid (show l.any p = false from by rw [← HA.out, ← hjj, List.take_length]); clear hjj
      go_wp2_with fail
      go_ret
      exact ⟨⟨-1, rfl, by rw [HE.out]; rfl⟩, hb⟩
theorem has_textNames_1 (p : T → Bool) (l : List T) (a : Option Addr) (cap B : Nat) (w : World) (hr : R w B a cap l) (hB : B ≤ w.heap.size)
    (hp : ∀ t ∈ l, ∀ (a : Option Addr) (cap : Nat) (w' : World), Below w.heap.size w w' → R w' B a cap t.l → Wf t → Calls Tryz.prog 75 #[.agg (cV t a cap)] w' fun e v => e = .returned (.bool (p t)) ∧ Below w'.heap.size w' v) :
    Calls Tryz.prog 73 #[.slice a l.length cap, .func (.func 75) #[] #[]] w fun e w' => e = .returned (.bool (l.any p)) ∧ Below w.heap.size w w' := by
  have cI := idx_textNames_1 p l a cap B w hr hB hp
  generalize l.any p = r at *
  have CI := Lib.hid cI; clear cI hp hr
  go_enter Tryz.func73, Tryz.ntmps73
  go_wp2_with fail
  refine CI.out.mono ?_
  rintro e w2 ⟨⟨i, rfl, hi⟩, hb⟩
  cases r with
  | false =>
    have hi2 : ¬ 0 ≤ i := of_decide_eq_false hi
    clear hi
    go_wp2_with fail
    go_ret
    exact ⟨ret_b (by first | (simp; done) | (simp; omega)), hb⟩
  | true =>
    have hi2 : 0 ≤ i := of_decide_eq_true hi
    clear hi
    go_wp2_with fail
    go_ret
    exact ⟨ret_b (by first | (simp; done) | (simp; omega)), hb⟩
set_option maxHeartbeats 1000000 in
theorem idx_OnceEach_1 (p : T → Bool) (g : Nat) (l : List T) (a : Option Addr) (cap B : Nat) (w : World) (hr : R w B a cap l) (hB : B ≤ w.heap.size)
    (hp : ∀ t ∈ l, ∀ (a : Option Addr) (cap : Nat) (w' : World), Below w.heap.size w w' → R w' B a cap t.l → Wf t → Calls Tryz.prog 77 #[.agg (cV t a cap), .pointer (some ⟨g, 0, none⟩)] w' fun e v => e = .returned (.bool (p t)) ∧ Below w'.heap.size w' v) :
    Calls Tryz.prog 107 #[.slice a l.length cap, .func (.func 77) #[] #[.pointer (some ⟨g, 0, none⟩)]] w fun e w' => (∃ r : Int, e = .returned (.int .i64 r) ∧ decide (0 ≤ r) = l.any p) ∧ Below w.heap.size w w' := by
  obtain ⟨hl1, hl2⟩ := hr.len
  have HR := Lib.hid hr; clear hr
  have HP := Lib.hid hp; clear hp
  go_enter Tryz.func107, Tryz.ntmps107
  go_wp2_with fail
  go_loopw [8, 5] (fun i _ wr => ∃ (j : Nat), j ≤ l.length ∧ i = .int .i64 j ∧ Hid ((l.take j).any p = false) ∧ Below w.heap.size w wr) (fun i _ _ => l.length - (intOf i).toNat)
  case atStart => exact ⟨0, Nat.zero_le _, rfl, rfl, Below.refl _ _⟩
  case round =>
    obtain ⟨j, hj, rfl, HA, hb⟩ := hrel
    have hbs := hb.size
    by_cases hlt : j < l.length
    · obtain ⟨b, o, a2, cap2, rfl, hbl, d0, d1, d2, d3, d4, hwf, hq⟩ := (HR.out.below hb hB).get j hlt
      have l1 : b < wr.heap.size := by omega
      have HW := Lib.hid hwf; clear hwf
      have HQ := Lib.hid hq; clear hq
      have HB := Lib.hid hb
      go_wp2_with fail
      refine (HP.out l[j] (List.getElem_mem hlt) a2 cap2 wr HB.out HQ.out HW.out).mono ?_
      rintro e w2 ⟨rfl, hb2⟩
      cases hv : p l[j] with
      | false =>
        have HE := Lib.hid (show (l.take (j + 1)).any p = false from by rw [any_take_succ p l j hlt, HA.out, hv]; rfl)
        clear hv
        go_wp2_with fail
        go_roundw
        case rel => exact ⟨j + 1, by omega, by go_num, HE.out, hb.trans (hb2.mono hbs)⟩
        case measure => simp [intOf]; omega
      | true =>
        have HE := Lib.hid (any_true p l j hlt hv)
        clear hv
        go_wp2_with fail
        go_ret
        exact ⟨⟨j, rfl, by rw [HE.out]; first | done | exact decide_eq_true (by omega)⟩, hb.trans (hb2.mono hbs)⟩
    · have hjj : l.length = j := by omega
      have HE := Lib.hid (show l.any p = false from by rw [← HA.out, ← hjj, List.take_length]); clear hjj
      go_wp2_with fail
      go_ret
      exact ⟨⟨-1, rfl, by rw [HE.out]; rfl⟩, hb⟩
theorem has_OnceEach_1 (p : T → Bool) (g : Nat) (l : List T) (a : Option Addr) (cap B : Nat) (w : World) (hr : R w B a cap l) (hB : B ≤ w.heap.size)
    (hp : ∀ t ∈ l, ∀ (a : Option Addr) (cap : Nat) (w' : World), Below w.heap.size w w' → R w' B a cap t.l → Wf t → Calls Tryz.prog 77 #[.agg (cV t a cap), .pointer (some ⟨g, 0, none⟩)] w' fun e v => e = .returned (.bool (p t)) ∧ Below w'.heap.size w' v) :
    Calls Tryz.prog 73 #[.slice a l.length cap, .func (.func 77) #[] #[.pointer (some ⟨g, 0, none⟩)]] w fun e w' => e = .returned (.bool (l.any p)) ∧ Below w.heap.size w w' := by
  have cI := idx_OnceEach_1 p g l a cap B w hr hB hp
  generalize l.any p = r at *
  have CI := Lib.hid cI; clear cI hp hr
  go_enter Tryz.func73, Tryz.ntmps73
  go_wp2_with fail
  refine CI.out.mono ?_
  rintro e w2 ⟨⟨i, rfl, hi⟩, hb⟩
  cases r with
  | false =>
    have hi2 : ¬ 0 ≤ i := of_decide_eq_false hi
    clear hi
    go_wp2_with fail
    go_ret
    exact ⟨ret_b (by first | (simp; done) | (simp; omega)), hb⟩
  | true =>
    have hi2 : 0 ≤ i := of_decide_eq_true hi
    clear hi
    go_wp2_with fail
    go_ret
    exact ⟨ret_b (by first | (simp; done) | (simp; omega)), hb⟩
/-- The tables that the checks read stand, whatever is laid behind B. -/
def Env (B : Nat) (w : World) : Prop := Lib.TabBelow Tryz.prog B w "internal/strconv.uint64pow10" .u64 Lib.pow10Tab ∧ UtfBelow B w
theorem Env.step {B : Nat} {w w' : World} (h : Env B w) (hb : Below B w w') : Env B w' := ⟨fun v hv => h.1 v (hb.trans hv), h.2.step hb⟩
theorem Env.here {B : Nat} {w : World} (h : Env B w) (hB : B ≤ w.heap.size) : Env w.heap.size w := ⟨fun v hv => h.1 v (hv.mono hB), fun v hv => h.2 v (hv.mono hB)⟩
theorem impl_ownOkR (t : T) (a : Option Addr) (cap B : Nat) (w : World) (hr : R w B a cap t.l) (hwf : Wf t) (hsz : T.sz t ≤ 1048576) (he : Env B w) (hB : B ≤ w.heap.size) :
    Calls Tryz.prog 72 #[.agg (cV t a cap)] w fun e v => e = .returned (.bool (ownB t)) ∧ Below w.heap.size w v :=
  impl_ownOk t a cap w hr.len.1 hr.len.2 hwf (by have := sz_string t; omega) (he.here hB).1 (he.here hB).2
set_option maxHeartbeats 2000000 in
theorem every_own (hp : ∀ t : T, ∀ (a : Option Addr) (cap B : Nat) (w : World), R w B a cap t.l → Wf t → T.sz t ≤ 1048576 → Env B w → B ≤ w.heap.size → Calls Tryz.prog 72 #[.agg (cV t a cap)] w fun e v => e = .returned (.bool (ownB t)) ∧ Below w.heap.size w v) :
    ∀ t : T, ∀ (a : Option Addr) (cap B : Nat) (w : World), R w B a cap t.l → Wf t → T.sz t ≤ 1048576 → Env B w → B ≤ w.heap.size →
    Calls Tryz.prog 42 #[.agg (cV t a cap), .func (.func 72) #[] #[]] w fun e w' => e = .returned (.bool (allB ownB t)) ∧ Below w.heap.size w w' := by
  have HP := Lib.hid hp; clear hp
  intro t
  induction t using T.ind with
  | h k n x s l ih =>
    intro a cap B w hr hwf hsz henv hB
    have IH := Lib.hid ih; clear ih
    have HPT := Lib.hid (fun W h1 h2 h3 h4 => HP.out (.mk k n x s l) a cap B W h1 hwf hsz h3 h4 : ∀ W, R W B a cap l → True → Env B W → B ≤ W.heap.size → _)
    have HALL := Lib.hid (allB_eq ownB (.mk k n x s l))
    simp only [cV, T.k, T.n, T.x, T.s, T.l] at hr HPT ⊢
    rw [sz_of] at hsz
    obtain ⟨hlc, hcap⟩ := hr.len
    have HR := Lib.hid hr; clear hr
    have HE := Lib.hid henv; clear henv hwf
    have hmf : ∀ (fn : Fn) (first cap : Array Value) (w : World), (Instr.makeFunc fn first cap).run Tryz.prog w = .ok (.func fn first cap) w := fun _ _ _ _ => rfl
    go_enter Tryz.func42, Tryz.ntmps42
    go_wp2_with fail
    generalize hW : (w.alloc (Obj.cells #[Value.int IntKind.i64 k, Value.int IntKind.i64 n, Value.int IntKind.i64 x, Value.string s, Value.slice a l.length cap] 29)).alloc (Obj.cells #[.func (.func 72) #[] #[]] 39) = W0
    have q1 : Is W0 w.heap.size 29 #[Value.int IntKind.i64 k, Value.int IntKind.i64 n, Value.int IntKind.i64 x, Value.string s, Value.slice a l.length cap] := by subst hW; exact (Is.new _ _ _).alloc _
    have q2 : Is W0 (w.heap.size + 1) 39 #[.func (.func 72) #[] #[]] := by subst hW; exact Is.new2 _ _ _ _
    have H0 := Lib.hid (show Below w.heap.size w W0 from by subst hW; exact below2 _ _ _)
    have hs0 : W0.heap.size = w.heap.size + 2 := by subst hW; simp
    clear hW
    refine (HPT.out W0 (HR.out.below H0.out hB) trivial (HE.out.step (H0.out.mono hB)) (by omega)).mono ?_
    rintro e w2 ⟨rfl, hb2⟩
    have hs2 := hb2.size
    have p1 := q1.below hb2 (by omega)
    have p2 := q2.below hb2 (by omega)
    obtain ⟨r0, r1, r2, r3, r4⟩ := p1.cells5
    have l1 : w.heap.size < w2.heap.size := by omega
    have HB2 := Lib.hid (H0.out.trans (hb2.mono (by omega)))
    clear HPT
    cases hv : ownB (.mk k n x s l) with
    | false =>
      have HD := Lib.hid (show allB ownB (.mk k n x s l) = false from by rw [HALL.out, hv]; rfl)
      clear hv HALL
      go_wp2_with fail
      go_ret
      exact ⟨ret_b (by rw [HD.out]), HB2.out⟩
    | true =>
      have HD := Lib.hid (show allB ownB (.mk k n x s l) = !(l.any fun x => !allB ownB x) from by rw [HALL.out, hv]; simp only [T.l, Bool.true_and]; exact (any_not_all _ _).symm)
      clear hv HALL
      have H1 : ∀ t ∈ l, ∀ (a : Option Addr) (cap : Nat) (w' : World), Below w2.heap.size w2 w' → R w' B a cap t.l → Wf t → Calls Tryz.prog 74 #[.agg (cV t a cap), .pointer (some ⟨w.heap.size + 1, 0, none⟩)] w' fun e v => e = .returned (.bool (!allB ownB t)) ∧ Below w'.heap.size w' v := by
        intro t ht a3 cap3 w' hb3 hr3 hwf3
        obtain ⟨i, hi, rfl⟩ := List.mem_iff_getElem.1 ht
        have hszi := T.sz_get l i hi
        have hs3 := hb3.size
        have t2 := p2.below hb3 (by omega)
        have c0 := t2.cell 0 rfl
        simp only [List.getElem_toArray, List.getElem_cons_zero] at c0
        have l2 : w.heap.size + 1 < w'.heap.size := by omega
        have HWF := Lib.hid hwf3; clear hwf3
        have HR3 := Lib.hid hr3; clear hr3
        have HB3 := Lib.hid (HB2.out.trans (hb3.mono (by omega)))
        clear hb3 p1 q1 q2 r0 r1 r2 r3 r4 ht
        go_enter Tryz.func74, Tryz.ntmps74
        go_wp2_with fail
        refine (IH.out l[i] (List.getElem_mem hi) a3 cap3 B _ (HR3.out.below (below1 _ _) (by omega)) HWF.out (by omega) (HE.out.step ((HB3.out.mono hB).trans ((below1 _ _).mono (by omega)))) (by simp; omega)).mono ?_
        rintro e w5 ⟨rfl, hb5⟩
        go_wp2_with fail
        go_ret
        exact ⟨rfl, below_step (below1 _ _) hb5 (by simp)⟩
      have cC := has_every_1 (fun x => !allB ownB x) (w.heap.size + 1) l a cap B w2 (HR.out.below HB2.out hB) (by omega) H1
      have CC := Lib.hid cC; clear cC H1
      generalize (l.any fun x => !allB ownB x) = r at *
      go_wp2_with fail
      refine CC.out.mono ?_
      rintro e w6 ⟨rfl, hb6⟩
      go_wp2_with fail
      go_ret
      exact ⟨ret_b (by rw [HD.out]), HB2.out.trans (hb6.mono (by omega))⟩
theorem impl_ValOk (t : T) (a : Option Addr) (cap B : Nat) (w : World) (hr : R w B a cap t.l) (hwf : Wf t) (hsz : T.sz t ≤ 1048576) (he : Env B w) (hB : B ≤ w.heap.size) :
    Calls Tryz.prog 41 #[.agg (cV t a cap)] w fun e v => e = .returned (.bool (allB ownB t)) ∧ Below w.heap.size w v := by
  have HC := Lib.hid (every_own (fun t a cap B w h1 h2 h3 h4 h5 => impl_ownOkR t a cap B w h1 h2 h3 h4 h5) t a cap B (w.alloc (.cells (cV t a cap) 29)) (hr.below (below1 _ _) hB) hwf hsz (he.step ((below1 _ _).mono hB)) (by simp; omega))
  go_enter Tryz.func41, Tryz.ntmps41
  go_wp2_with fail
  refine HC.out.mono ?_
  rintro e w2 ⟨rfl, hb2⟩
  go_wp2_with fail
  go_ret
  exact ⟨rfl, below_step (below1 _ _) hb2 (by simp)⟩
end Go.Proofs.YthpmfkkmhbbloaaGreatDoor
