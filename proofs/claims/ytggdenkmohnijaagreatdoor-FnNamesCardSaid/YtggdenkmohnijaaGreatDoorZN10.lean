/- Texts of this proof, merged: OwnS. No condition beyond what each theorem states. -/
import Derived.Test.YtggdenkmohnijaaGreatDoorZN9
set_option linter.unusedSimpArgs false
set_option linter.unnecessarySimpa false
namespace Go.Proofs.YtggdenkmohnijaaGreatDoor
open Go.ChangeShapes Go.WideShapes Go.ChangeAt Go.RowKit Go.Joins
set_option linter.unusedVariables false
set_option maxRecDepth 100000
mutual
def allB (p : T → Bool) : T → Bool | .mk k n x s l => p (.mk k n x s l) && allBs p l
def allBs (p : T → Bool) : List T → Bool | [] => true | t :: r => allB p t && allBs p r
end
theorem allBs_all (p : T → Bool) (l : List T) : allBs p l = l.all (allB p) := by
  induction l with
  | nil => rfl
  | cons t r ih => simp [allBs, ih]
theorem allB_eq (p : T → Bool) (t : T) : allB p t = (p t && t.l.all (allB p)) := by
  cases t; simp only [allB, allBs_all, T.l]
theorem all_take_succ {α : Type} (p : α → Bool) (l : List α) (j : Nat) (h : j < l.length) : (l.take (j + 1)).all p = ((l.take j).all p && p l[j]) := by
  rw [take_snoc l j h, List.all_append]; simp
theorem all_false {α : Type} (p : α → Bool) (l : List α) (j : Nat) (h : j < l.length) (hp : p l[j] = false) : l.all p = false := by
  rw [List.all_eq_false]; exact ⟨l[j], List.getElem_mem h, by simp [hp]⟩
abbrev ownB (t : T) : Bool := decide (ownP t)
theorem sz_string (t : T) : t.s.size ≤ T.sz t := by cases t; simp only [T.s, T.sz]; omega
theorem sz_list (t : T) : T.szL t.l ≤ T.sz t := by cases t; simp only [T.l, T.sz]; omega
theorem sz_of (k n x : Int) (s : ByteArray) (l : List T) : T.sz (.mk k n x s l) = s.size + T.szL l := by simp only [T.sz]
theorem spec_l6Leaf (k n x : Int) (s : ByteArray) (a : Option Addr) (m cap : Nat) (w : World) (hlc : m ≤ cap) (hcap : cap ≤ 9223372036854775807) :
    Calls Tryz.prog 121 #[.agg #[.int .i64 k, .int .i64 n, .int .i64 x, .string s, .slice a m cap]] w fun e w' => e = .returned (.bool (decide (m = 0))) ∧ Below w.heap.size w w' := by
  by_cases h : m = 0
  · have h2 : (m : Int) = 0 := by omega
    have HD := Lib.hid (show decide (m = 0) = true from decide_eq_true h)
    rw [HD.out]; clear h HD
    go_enter Tryz.func121, Tryz.ntmps121
    go_wp2_with fail
    go_ret
    exact ⟨ret_b (by simp [h2]), below1 _ _⟩
  · have h2 : ¬ (m : Int) = 0 := by omega
    have HD := Lib.hid (show decide (m = 0) = false from decide_eq_false h)
    rw [HD.out]; clear h HD
    go_enter Tryz.func121, Tryz.ntmps121
    go_wp2_with fail
    go_ret
    exact ⟨ret_b (by simp; omega), below1 _ _⟩
set_option maxHeartbeats 16000000 in
theorem spec_ValOk : ∀ t : T, ∀ (a : Option Addr) (cap B : Nat) (w : World), R w B a cap t.l → Wf t → T.sz t ≤ 1048576 → B ≤ w.heap.size →
    Calls Tryz.prog 70 #[.agg (cV t a cap)] w fun e w' => e = .returned (.bool (allB ownB t)) ∧ Below w.heap.size w w' := by
  intro t
  induction t using T.ind with
  | h k n x s l ih =>
    intro a cap B w hr hwf hsz hB
    have IH := Lib.hid ih; clear ih
    obtain ⟨hk, hn, hx, _⟩ := hwf
    simp only [cV, T.k, T.n, T.x, T.s, T.l] at hr hk hn hx ⊢
    have HN := Lib.hid hn; have HX := Lib.hid hx
    obtain ⟨hk0, hk1⟩ := hk
    obtain ⟨hn0, hn1⟩ := hn
    obtain ⟨hx0, hx1⟩ := hx
    rw [sz_of] at hsz
    obtain ⟨hlc, hcap⟩ := hr.len
    have hss : s.size ≤ 4611686018427387903 := by omega
    have HR := Lib.hid hr; clear hr
    have HALL0 := Lib.hid (allB_eq ownB (.mk k n x s l))
    go_enter Tryz.func70, Tryz.ntmps70
    go_wp2_with fail
    generalize hW : w.alloc (Obj.cells #[Value.int IntKind.i64 k, Value.int IntKind.i64 n, Value.int IntKind.i64 x, Value.string s, Value.slice a l.length cap] 26) = W0
    have q1 : Is W0 w.heap.size 26 #[Value.int IntKind.i64 k, Value.int IntKind.i64 n, Value.int IntKind.i64 x, Value.string s, Value.slice a l.length cap] := by subst hW; exact Is.new _ _ _
    have H0 := Lib.hid (show Below w.heap.size w W0 from by subst hW; exact below1 _ _)
    have hs0 : W0.heap.size = w.heap.size + 1 := by subst hW; simp
    clear hW
    go_loopw [3] (fun i wr => ∃ (j : Nat), j ≤ l.length ∧ i = .int .i64 j ∧ Hid ((l.take j).all (allB ownB) = true) ∧ Below W0.heap.size W0 wr) (fun i _ => l.length - (intOf i).toNat)
    case atStart => exact ⟨0, Nat.zero_le _, rfl, rfl, Below.refl _ _⟩
    case round =>
      obtain ⟨j, hj, rfl, HA, hb⟩ := hrel
      have hbs := hb.size
      have hbox := q1.below hb (by omega)
      obtain ⟨x0, x1, x2, x3, x4⟩ := hbox.cells5
      have hlt2 : w.heap.size < wr.heap.size := by omega
      have HBw := Lib.hid (H0.out.trans (hb.mono (by omega)))
      by_cases hlt : j < l.length
      · obtain ⟨b, o, a2, cap2, rfl, hbl, d0, d1, d2, d3, d4, hwfj, hq⟩ := (HR.out.below HBw.out hB).get j hlt
        have hlb : b < wr.heap.size := by omega
        have hszj := T.sz_get l j hlt
        have HWF := Lib.hid hwfj; clear hwfj
        have HQ := Lib.hid hq; clear hq
        have HT := Lib.hid (all_take_succ (allB ownB) l j hlt)
        have HF := Lib.hid (all_false (allB ownB) l j hlt)
        go_wp2_with fail
        refine (IH.out l[j] (List.getElem_mem hlt) a2 cap2 B wr HQ.out HWF.out (by omega) (by omega)).mono ?_
        rintro e w2 ⟨rfl, hb2⟩
        cases hv : allB ownB l[j] with
        | false =>
          have HE := Lib.hid (show allB ownB (.mk k n x s l) = false from by rw [HALL0.out]; simp only [T.l]; rw [HF.out hv, Bool.and_false])
          clear HF HT hv
          go_wp2_with fail
          go_ret
          exact ⟨ret_b (by rw [HE.out]), HBw.out.trans (hb2.mono HBw.out.size)⟩
        | true =>
          have HE := Lib.hid (show (l.take (j + 1)).all (allB ownB) = true from by rw [HT.out, HA.out, hv]; rfl)
          clear HF HT hv
          go_wp2_with fail
          go_roundw
          case rel => exact ⟨j + 1, by omega, by go_num, HE.out, hb.trans (hb2.mono hbs)⟩
          case measure => simp [intOf]; omega
      · have hjj : l.length = j := by omega
        have HJ := Lib.hid (show l.take j = l from by rw [← hjj, List.take_length]); clear hjj
        have HALL := Lib.hid (show allB ownB (.mk k n x s l) = decide (ownQ k n x s l.length) from by rw [HALL0.out]; simp only [T.l]; rw [show l.all (allB ownB) = true from by rw [← HJ.out]; exact HA.out, Bool.and_true]; rfl)
        have hacc := HBw.out
        obtain ⟨lf, hlf⟩ : ∃ lf, decide (l.length = 0) = lf := ⟨_, rfl⟩
        have HLF := Lib.hid hlf; clear hlf
        have hcases : k = 1 ∨ k = 2 ∨ k = 3 ∨ k = 4 ∨ k = 5 ∨ k = 6 ∨ k = 7 ∨ k = 8 ∨ k = 9 ∨ k = 10 ∨ k = 11 ∨ (k < 1 ∨ 11 < k) := by omega
        clear HA HJ IH HR HALL0 hb q1 H0 hs0
        obtain rfl | rfl | rfl | rfl | rfl | rfl | rfl | rfl | rfl | rfl | rfl | hko := hcases
        · go_wp2_with (go_at_call 121; refine (spec_l6Leaf _ _ _ _ _ _ _ _ hlc hcap).mono ?_; rintro e w2 ⟨rfl, hb⟩; rw [HLF.out]; replace hacc := below_step hacc hb hacc.size)
          all_goals
            go_ret
            refine ⟨ret_b ?_, hacc⟩
            rw [HALL.out]
            first | (exact (decide_eq_false (fun h => absurd ((own1 n x s l.length).1 h).1 (by assumption))).symm) | (exact (decide_eq_false (fun h => by have g := (own1 n x s l.length).1 h; have g2 := g.2.1; have g3 := g.2.2.1; have g4 := g.2.2.2; omega)).symm) | (exact (decide_eq_true ((own1 n x s l.length).2 ⟨by assumption, by omega, by omega, by omega⟩)).symm) | (exact HLF.out.symm.trans (decide_eq_decide.2 ((own1 n x s l.length).trans ⟨fun h => by have g := h; have g2 := g.2.1; have g3 := g.2.2.1; have g4 := g.2.2.2; omega, fun h => ⟨by assumption, by omega, by omega, by omega⟩⟩)).symm) | (exact (decide_eq_decide.2 ((own1 n x s l.length).trans ⟨fun h => by have g := h; have g2 := g.2.1; have g3 := g.2.2.1; have g4 := g.2.2.2; omega, fun h => ⟨by assumption, by omega, by omega, by omega⟩⟩)).symm) | (exact Bool.eq_iff_iff.2 ⟨fun h => decide_eq_true ((own1 n x s l.length).2 ⟨by simpa using h, by omega, by omega, by omega⟩), fun h => by have g := (own1 n x s l.length).1 (of_decide_eq_true h); have g2 := g.2.1; have g3 := g.2.2.1; have g4 := g.2.2.2; first | (simpa using g.1) | (simp; omega)⟩)
        · obtain ⟨bb, hbb⟩ : ∃ bb, decide ((0 : Int) ≤ n ∧ n ≤ 1) = bb := ⟨_, rfl⟩
          rcases bb with _ | _
          all_goals (have HBB := Lib.hid hbb; clear hbb)
          all_goals go_wp2_with (first | ((go_at_call 74; refine (spec_l1In _ _ _ _).mono ?_); rintro e w2 ⟨rfl, hb⟩; rw [HBB.out]; replace hacc := below_step hacc hb hacc.size; replace hbox := hbox.below hb hlt2; obtain ⟨r0, r1, r2, r3, r4⟩ := hbox.cells5; have hlt2 := Nat.lt_of_lt_of_le hlt2 hb.size; clear hb) | (go_at_call 121; refine (spec_l6Leaf _ _ _ _ _ _ _ _ hlc hcap).mono ?_; rintro e w2 ⟨rfl, hb⟩; rw [HLF.out]; replace hacc := below_step hacc hb hacc.size))
          all_goals
            go_ret
            refine ⟨ret_b ?_, hacc⟩
            rw [HALL.out]
            first | (exact (decide_eq_false (fun h => absurd ((own2 n x s l.length).1 h).1 (by assumption))).symm) | (exact (decide_eq_false (fun h => by have g1 := of_decide_eq_false HBB.out; have g2 := (own2 n x s l.length).1 h; omega)).symm) | (exact (decide_eq_false (fun h => by have g := (own2 n x s l.length).1 h; have g2 := g.2.1; have g3 := g.2.2.1; have g4 := g.2.2.2; omega)).symm) | (exact (decide_eq_true ((own2 n x s l.length).2 ⟨by assumption, by omega, by omega, by have g := of_decide_eq_true HBB.out; omega⟩)).symm) | (exact HLF.out.symm.trans (decide_eq_decide.2 ((own2 n x s l.length).trans ⟨fun h => by have g := h; have g2 := g.2.1; have g3 := g.2.2.1; have g4 := g.2.2.2; omega, fun h => ⟨by assumption, by omega, by omega, by have g := of_decide_eq_true HBB.out; omega⟩⟩)).symm) | (exact (decide_eq_decide.2 ((own2 n x s l.length).trans ⟨fun h => by have g := h; have g2 := g.2.1; have g3 := g.2.2.1; have g4 := g.2.2.2; omega, fun h => ⟨by assumption, by omega, by omega, by have g := of_decide_eq_true HBB.out; omega⟩⟩)).symm) | (exact Bool.eq_iff_iff.2 ⟨fun h => decide_eq_true ((own2 n x s l.length).2 ⟨by simpa using h, by omega, by omega, by have g := of_decide_eq_true HBB.out; omega⟩), fun h => by have g := (own2 n x s l.length).1 (of_decide_eq_true h); have g2 := g.2.1; have g3 := g.2.2.1; have g4 := g.2.2.2; first | (simpa using g.1) | (simp; omega)⟩)
        · obtain ⟨bb, hbb⟩ : ∃ bb, decide ((-1000000000000000 : Int) ≤ n ∧ n ≤ 1000000000000000) = bb := ⟨_, rfl⟩
          rcases bb with _ | _
          all_goals (have HBB := Lib.hid hbb; clear hbb)
          all_goals go_wp2_with (first | ((go_at_call 74; refine (spec_l1In _ _ _ _).mono ?_); rintro e w2 ⟨rfl, hb⟩; rw [HBB.out]; replace hacc := below_step hacc hb hacc.size; replace hbox := hbox.below hb hlt2; obtain ⟨r0, r1, r2, r3, r4⟩ := hbox.cells5; have hlt2 := Nat.lt_of_lt_of_le hlt2 hb.size; clear hb) | (go_at_call 121; refine (spec_l6Leaf _ _ _ _ _ _ _ _ hlc hcap).mono ?_; rintro e w2 ⟨rfl, hb⟩; rw [HLF.out]; replace hacc := below_step hacc hb hacc.size))
          all_goals
            go_ret
            refine ⟨ret_b ?_, hacc⟩
            rw [HALL.out]
            first | (exact (decide_eq_false (fun h => absurd ((own3 n x s l.length).1 h).1 (by assumption))).symm) | (exact (decide_eq_false (fun h => by have g1 := of_decide_eq_false HBB.out; have g2 := (own3 n x s l.length).1 h; omega)).symm) | (exact (decide_eq_false (fun h => by have g := (own3 n x s l.length).1 h; have g2 := g.2.1; have g3 := g.2.2.1; omega)).symm) | (exact (decide_eq_true ((own3 n x s l.length).2 ⟨by assumption, by omega, by omega, by have g := of_decide_eq_true HBB.out; omega⟩)).symm) | (exact HLF.out.symm.trans (decide_eq_decide.2 ((own3 n x s l.length).trans ⟨fun h => by have g := h; have g2 := g.2.1; have g3 := g.2.2.1; omega, fun h => ⟨by assumption, by omega, by omega, by have g := of_decide_eq_true HBB.out; omega⟩⟩)).symm) | (exact (decide_eq_decide.2 ((own3 n x s l.length).trans ⟨fun h => by have g := h; have g2 := g.2.1; have g3 := g.2.2.1; omega, fun h => ⟨by assumption, by omega, by omega, by have g := of_decide_eq_true HBB.out; omega⟩⟩)).symm) | (exact Bool.eq_iff_iff.2 ⟨fun h => decide_eq_true ((own3 n x s l.length).2 ⟨by simpa using h, by omega, by omega, by have g := of_decide_eq_true HBB.out; omega⟩), fun h => by have g := (own3 n x s l.length).1 (of_decide_eq_true h); have g2 := g.2.1; have g3 := g.2.2.1; first | (simpa using g.1) | (simp; omega)⟩)
        · obtain ⟨bb, hbb⟩ : ∃ bb, decide (fltOk n x) = bb := ⟨_, rfl⟩
          rcases bb with _ | _
          all_goals (have HBB := Lib.hid hbb; clear hbb)
          all_goals go_wp2_with (first | ((go_at_call 122; refine (spec_FltOk _ _ _ HN.out HX.out).mono ?_); rintro e w2 ⟨rfl, hb⟩; rw [HBB.out]; replace hacc := below_step hacc hb hacc.size; replace hbox := hbox.below hb hlt2; obtain ⟨r0, r1, r2, r3, r4⟩ := hbox.cells5; have hlt2 := Nat.lt_of_lt_of_le hlt2 hb.size; clear hb) | (go_at_call 121; refine (spec_l6Leaf _ _ _ _ _ _ _ _ hlc hcap).mono ?_; rintro e w2 ⟨rfl, hb⟩; rw [HLF.out]; replace hacc := below_step hacc hb hacc.size))
          all_goals
            go_ret
            refine ⟨ret_b ?_, hacc⟩
            rw [HALL.out]
            first | (exact (decide_eq_false (fun h => absurd ((own4 n x s l.length).1 h).1 (by assumption))).symm) | (exact (decide_eq_false (fun h => by exact absurd ((own4 n x s l.length).1 h).2.2 (of_decide_eq_false HBB.out))).symm) | (exact (decide_eq_false (fun h => by have g := (own4 n x s l.length).1 h; have g2 := g.2.1; omega)).symm) | (exact (decide_eq_true ((own4 n x s l.length).2 ⟨by assumption, by omega, of_decide_eq_true HBB.out⟩)).symm) | (exact HLF.out.symm.trans (decide_eq_decide.2 ((own4 n x s l.length).trans ⟨fun h => by have g := h; have g2 := g.2.1; omega, fun h => ⟨by assumption, by omega, of_decide_eq_true HBB.out⟩⟩)).symm) | (exact (decide_eq_decide.2 ((own4 n x s l.length).trans ⟨fun h => by have g := h; have g2 := g.2.1; omega, fun h => ⟨by assumption, by omega, of_decide_eq_true HBB.out⟩⟩)).symm) | (exact Bool.eq_iff_iff.2 ⟨fun h => decide_eq_true ((own4 n x s l.length).2 ⟨by simpa using h, by omega, of_decide_eq_true HBB.out⟩), fun h => by have g := (own4 n x s l.length).1 (of_decide_eq_true h); have g2 := g.2.1; first | (simpa using g.1) | (simp; omega)⟩)
        · obtain ⟨bb, hbb⟩ : ∃ bb, decide ((0 : Int) ≤ n ∧ n ≤ 2) = bb := ⟨_, rfl⟩
          rcases bb with _ | _
          all_goals (have HBB := Lib.hid hbb; clear hbb)
          all_goals go_wp2_with (first | ((go_at_call 74; refine (spec_l1In _ _ _ _).mono ?_); rintro e w2 ⟨rfl, hb⟩; rw [HBB.out]; replace hacc := below_step hacc hb hacc.size; replace hbox := hbox.below hb hlt2; obtain ⟨r0, r1, r2, r3, r4⟩ := hbox.cells5; have hlt2 := Nat.lt_of_lt_of_le hlt2 hb.size; clear hb) | (go_at_call 121; refine (spec_l6Leaf _ _ _ _ _ _ _ _ hlc hcap).mono ?_; rintro e w2 ⟨rfl, hb⟩; rw [HLF.out]; replace hacc := below_step hacc hb hacc.size))
          all_goals
            go_ret
            refine ⟨ret_b ?_, hacc⟩
            rw [HALL.out]
            first | (exact (decide_eq_false (fun h => absurd ((own5 n x s l.length).1 h).1 (by assumption))).symm) | (exact (decide_eq_false (fun h => by have g1 := of_decide_eq_false HBB.out; have g2 := (own5 n x s l.length).1 h; omega)).symm) | (exact (decide_eq_false (fun h => by have g := (own5 n x s l.length).1 h; have g2 := g.2.1; have g3 := g.2.2.1; omega)).symm) | (exact (decide_eq_true ((own5 n x s l.length).2 ⟨by assumption, by omega, by omega, by have g := of_decide_eq_true HBB.out; omega⟩)).symm) | (exact HLF.out.symm.trans (decide_eq_decide.2 ((own5 n x s l.length).trans ⟨fun h => by have g := h; have g2 := g.2.1; have g3 := g.2.2.1; omega, fun h => ⟨by assumption, by omega, by omega, by have g := of_decide_eq_true HBB.out; omega⟩⟩)).symm) | (exact (decide_eq_decide.2 ((own5 n x s l.length).trans ⟨fun h => by have g := h; have g2 := g.2.1; have g3 := g.2.2.1; omega, fun h => ⟨by assumption, by omega, by omega, by have g := of_decide_eq_true HBB.out; omega⟩⟩)).symm) | (exact Bool.eq_iff_iff.2 ⟨fun h => decide_eq_true ((own5 n x s l.length).2 ⟨by simpa using h, by omega, by omega, by have g := of_decide_eq_true HBB.out; omega⟩), fun h => by have g := (own5 n x s l.length).1 (of_decide_eq_true h); have g2 := g.2.1; have g3 := g.2.2.1; first | (simpa using g.1) | (simp; omega)⟩)
        · obtain ⟨bb, hbb⟩ : ∃ bb, decide (decOk n x) = bb := ⟨_, rfl⟩
          rcases bb with _ | _
          all_goals (have HBB := Lib.hid hbb; clear hbb)
          all_goals go_wp2_with (first | ((go_at_call 123; refine (spec_DecOk _ _ _ HN.out HX.out).mono ?_); rintro e w2 ⟨rfl, hb⟩; rw [HBB.out]; replace hacc := below_step hacc hb hacc.size; replace hbox := hbox.below hb hlt2; obtain ⟨r0, r1, r2, r3, r4⟩ := hbox.cells5; have hlt2 := Nat.lt_of_lt_of_le hlt2 hb.size; clear hb) | (go_at_call 121; refine (spec_l6Leaf _ _ _ _ _ _ _ _ hlc hcap).mono ?_; rintro e w2 ⟨rfl, hb⟩; rw [HLF.out]; replace hacc := below_step hacc hb hacc.size))
          all_goals
            go_ret
            refine ⟨ret_b ?_, hacc⟩
            rw [HALL.out]
            first | (exact (decide_eq_false (fun h => absurd ((own6 n x s l.length).1 h).1 (by assumption))).symm) | (exact (decide_eq_false (fun h => by exact absurd ((own6 n x s l.length).1 h).2.2.2 (of_decide_eq_false HBB.out))).symm) | (exact (decide_eq_false (fun h => by have g := (own6 n x s l.length).1 h; have g2 := g.2.1; have g4 := g.2.2.1; omega)).symm) | (exact (decide_eq_true ((own6 n x s l.length).2 ⟨by assumption, by omega, ⟨by omega, of_decide_eq_true HBB.out⟩⟩)).symm) | (exact HLF.out.symm.trans (decide_eq_decide.2 ((own6 n x s l.length).trans ⟨fun h => by have g := h; have g2 := g.2.1; have g4 := g.2.2.1; omega, fun h => ⟨by assumption, by omega, ⟨by omega, of_decide_eq_true HBB.out⟩⟩⟩)).symm) | (exact (decide_eq_decide.2 ((own6 n x s l.length).trans ⟨fun h => by have g := h; have g2 := g.2.1; have g4 := g.2.2.1; omega, fun h => ⟨by assumption, by omega, ⟨by omega, of_decide_eq_true HBB.out⟩⟩⟩)).symm) | (exact Bool.eq_iff_iff.2 ⟨fun h => decide_eq_true ((own6 n x s l.length).2 ⟨by simpa using h, by omega, ⟨by omega, of_decide_eq_true HBB.out⟩⟩), fun h => by have g := (own6 n x s l.length).1 (of_decide_eq_true h); have g2 := g.2.1; have g4 := g.2.2.1; first | (simpa using g.1) | (simp; omega)⟩)
        · obtain ⟨bb, hbb⟩ : ∃ bb, Lib.validD s.data.toList = bb := ⟨_, rfl⟩
          rcases bb with _ | _
          all_goals (have HBB := Lib.hid hbb; clear hbb)
          all_goals go_wp2_with (first | ((go_at_call 109; refine (spec_TextOk _ _ hss).mono ?_); rintro e w2 ⟨rfl, hb⟩; rw [HBB.out]; replace hacc := below_step hacc hb hacc.size; replace hbox := hbox.below hb hlt2; obtain ⟨r0, r1, r2, r3, r4⟩ := hbox.cells5; have hlt2 := Nat.lt_of_lt_of_le hlt2 hb.size; clear hb) | (go_at_call 121; refine (spec_l6Leaf _ _ _ _ _ _ _ _ hlc hcap).mono ?_; rintro e w2 ⟨rfl, hb⟩; rw [HLF.out]; replace hacc := below_step hacc hb hacc.size))
          all_goals
            go_ret
            refine ⟨ret_b ?_, hacc⟩
            rw [HALL.out]
            first | (exact (decide_eq_false (fun h => by exact absurd (((own7 n x s l.length).1 h).2.2.2.symm.trans HBB.out) (by decide))).symm) | (exact (decide_eq_false (fun h => by have g := (own7 n x s l.length).1 h; have g2 := g.1; have g3 := g.2.1; have g4 := g.2.2.1; omega)).symm) | (exact (decide_eq_true ((own7 n x s l.length).2 ⟨by omega, by omega, ⟨by omega, HBB.out⟩⟩)).symm) | (exact HLF.out.symm.trans (decide_eq_decide.2 ((own7 n x s l.length).trans ⟨fun h => by have g := h; have g2 := g.1; have g3 := g.2.1; have g4 := g.2.2.1; omega, fun h => ⟨by omega, by omega, ⟨by omega, HBB.out⟩⟩⟩)).symm) | (exact (decide_eq_decide.2 ((own7 n x s l.length).trans ⟨fun h => by have g := h; have g2 := g.1; have g3 := g.2.1; have g4 := g.2.2.1; omega, fun h => ⟨by omega, by omega, ⟨by omega, HBB.out⟩⟩⟩)).symm) | (exact Bool.eq_iff_iff.2 ⟨fun h => decide_eq_true ((own7 n x s l.length).2 ⟨by omega, by omega, ⟨by omega, HBB.out⟩⟩), fun h => by have g := (own7 n x s l.length).1 (of_decide_eq_true h); have g2 := g.1; have g3 := g.2.1; have g4 := g.2.2.1; first | (simpa using g.1) | (simp; omega)⟩)
        · go_wp2_with (go_at_call 121; refine (spec_l6Leaf _ _ _ _ _ _ _ _ hlc hcap).mono ?_; rintro e w2 ⟨rfl, hb⟩; rw [HLF.out]; replace hacc := below_step hacc hb hacc.size)
          all_goals
            go_ret
            refine ⟨ret_b ?_, hacc⟩
            rw [HALL.out]
            first | (exact (decide_eq_false (fun h => by have g := (own8 n x s l.length).1 h; have g2 := g.1; have g3 := g.2.1; have g4 := g.2.2; omega)).symm) | (exact (decide_eq_true ((own8 n x s l.length).2 ⟨by omega, by omega, by omega⟩)).symm) | (exact HLF.out.symm.trans (decide_eq_decide.2 ((own8 n x s l.length).trans ⟨fun h => by have g := h; have g2 := g.1; have g3 := g.2.1; have g4 := g.2.2; omega, fun h => ⟨by omega, by omega, by omega⟩⟩)).symm) | (exact (decide_eq_decide.2 ((own8 n x s l.length).trans ⟨fun h => by have g := h; have g2 := g.1; have g3 := g.2.1; have g4 := g.2.2; omega, fun h => ⟨by omega, by omega, by omega⟩⟩)).symm) | (exact Bool.eq_iff_iff.2 ⟨fun h => decide_eq_true ((own8 n x s l.length).2 ⟨by omega, by omega, by omega⟩), fun h => by have g := (own8 n x s l.length).1 (of_decide_eq_true h); have g2 := g.1; have g3 := g.2.1; have g4 := g.2.2; first | (simpa using g.1) | (simp; omega)⟩)
        · go_wp2_with fail
          all_goals
            go_ret
            refine ⟨ret_b ?_, hacc⟩
            rw [HALL.out]
            first | (exact (decide_eq_false (fun h => absurd ((own9 n x s l.length).1 h).1 (by assumption))).symm) | (exact (decide_eq_false (fun h => by have g := (own9 n x s l.length).1 h; have g2 := g.2.1; have g4 := g.2.2; omega)).symm) | (exact (decide_eq_true ((own9 n x s l.length).2 ⟨by assumption, by omega, by omega⟩)).symm) | (exact HLF.out.symm.trans (decide_eq_decide.2 ((own9 n x s l.length).trans ⟨fun h => by have g := h; have g2 := g.2.1; have g4 := g.2.2; omega, fun h => ⟨by assumption, by omega, by omega⟩⟩)).symm) | (exact (decide_eq_decide.2 ((own9 n x s l.length).trans ⟨fun h => by have g := h; have g2 := g.2.1; have g4 := g.2.2; omega, fun h => ⟨by assumption, by omega, by omega⟩⟩)).symm) | (exact Bool.eq_iff_iff.2 ⟨fun h => decide_eq_true ((own9 n x s l.length).2 ⟨by simpa using h, by omega, by omega⟩), fun h => by have g := (own9 n x s l.length).1 (of_decide_eq_true h); have g2 := g.2.1; have g4 := g.2.2; first | (simpa using g.1) | (simp; omega)⟩)
        · go_wp2_with fail
          all_goals
            go_ret
            refine ⟨ret_b ?_, hacc⟩
            rw [HALL.out]
            first | (exact (decide_eq_false (fun h => absurd ((own10 n x s l.length).1 h).1 (by assumption))).symm) | (exact (decide_eq_false (fun h => by have g := (own10 n x s l.length).1 h; have g2 := g.2.1; have g4 := g.2.2.1; have g5 := g.2.2.2; omega)).symm) | (exact (decide_eq_true ((own10 n x s l.length).2 ⟨by assumption, by omega, ⟨by omega, by omega⟩⟩)).symm) | (exact HLF.out.symm.trans (decide_eq_decide.2 ((own10 n x s l.length).trans ⟨fun h => by have g := h; have g2 := g.2.1; have g4 := g.2.2.1; have g5 := g.2.2.2; omega, fun h => ⟨by assumption, by omega, ⟨by omega, by omega⟩⟩⟩)).symm) | (exact (decide_eq_decide.2 ((own10 n x s l.length).trans ⟨fun h => by have g := h; have g2 := g.2.1; have g4 := g.2.2.1; have g5 := g.2.2.2; omega, fun h => ⟨by assumption, by omega, ⟨by omega, by omega⟩⟩⟩)).symm) | (exact Bool.eq_iff_iff.2 ⟨fun h => decide_eq_true ((own10 n x s l.length).2 ⟨by simpa using h, by omega, ⟨by omega, by omega⟩⟩), fun h => by have g := (own10 n x s l.length).1 (of_decide_eq_true h); have g2 := g.2.1; have g4 := g.2.2.1; have g5 := g.2.2.2; first | (simpa using g.1) | (simp; omega)⟩)
        · obtain ⟨bb, hbb⟩ : ∃ bb, decide ((0 : Int) ≤ n ∧ n ≤ 1000000000000000) = bb := ⟨_, rfl⟩
          rcases bb with _ | _
          all_goals (have HBB := Lib.hid hbb; clear hbb)
          all_goals go_wp2_with (first | ((go_at_call 74; refine (spec_l1In _ _ _ _).mono ?_); rintro e w2 ⟨rfl, hb⟩; rw [HBB.out]; replace hacc := below_step hacc hb hacc.size; replace hbox := hbox.below hb hlt2; obtain ⟨r0, r1, r2, r3, r4⟩ := hbox.cells5; have hlt2 := Nat.lt_of_lt_of_le hlt2 hb.size; clear hb) | (go_at_call 121; refine (spec_l6Leaf _ _ _ _ _ _ _ _ hlc hcap).mono ?_; rintro e w2 ⟨rfl, hb⟩; rw [HLF.out]; replace hacc := below_step hacc hb hacc.size))
          all_goals
            go_ret
            refine ⟨ret_b ?_, hacc⟩
            rw [HALL.out]
            first | (exact (decide_eq_false (fun h => absurd ((own11 n x s l.length).1 h).1 (by assumption))).symm) | (exact (decide_eq_false (fun h => by exact absurd ((own11 n x s l.length).1 h).2.2.1 (of_decide_eq_false HBB.out))).symm) | (exact (decide_eq_false (fun h => by have g := (own11 n x s l.length).1 h; have g2 := g.2.1; have g4 := g.2.2.2; omega)).symm) | (exact (decide_eq_true ((own11 n x s l.length).2 ⟨by assumption, by omega, ⟨of_decide_eq_true HBB.out, by omega⟩⟩)).symm) | (exact HLF.out.symm.trans (decide_eq_decide.2 ((own11 n x s l.length).trans ⟨fun h => by have g := h; have g2 := g.2.1; have g4 := g.2.2.2; omega, fun h => ⟨by assumption, by omega, ⟨of_decide_eq_true HBB.out, by omega⟩⟩⟩)).symm) | (exact (decide_eq_decide.2 ((own11 n x s l.length).trans ⟨fun h => by have g := h; have g2 := g.2.1; have g4 := g.2.2.2; omega, fun h => ⟨by assumption, by omega, ⟨of_decide_eq_true HBB.out, by omega⟩⟩⟩)).symm) | (exact Bool.eq_iff_iff.2 ⟨fun h => decide_eq_true ((own11 n x s l.length).2 ⟨by simpa using h, by omega, ⟨of_decide_eq_true HBB.out, by omega⟩⟩), fun h => by have g := (own11 n x s l.length).1 (of_decide_eq_true h); have g2 := g.2.1; have g4 := g.2.2.2; first | (simpa using g.1) | (simp; omega)⟩)
        · go_wp2_with fail
          go_ret
          exact ⟨ret_b (by rw [HALL.out]; exact (decide_eq_false (ownQ_out _ _ _ _ _ hko)).symm), hacc⟩
end Go.Proofs.YtggdenkmohnijaaGreatDoor
