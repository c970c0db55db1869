/- Texts of this proof, merged: SortT, SortC. No condition beyond what each theorem states. -/
import Derived.Test.YtfbodhfdomdkpaaGreatDoorRows
import Derived.WalkKit
import Derived.ProofKit
import Derived.OpenShut
import Derived.Handy
import Derived.Lib.Hide
import Derived.Lib.SmallJoins
import Derived.Deep.RegionHeld3
import Derived.Deep.QuietTactic
import Derived.BigQuiet
import Derived.BigRegion
import Derived.Test.YtfbodhfdomdkpaaGreatDoorZG1
import Derived.Test.YtfbodhfdomdkpaaGreatDoorZG2
import Derived.Test.YtfbodhfdomdkpaaGreatDoorZG5
import Derived.Test.YtfbodhfdomdkpaaGreatDoorZG8
import Derived.Test.YtfbodhfdomdkpaaGreatDoorZG9
import Derived.Test.YtfbodhfdomdkpaaGreatDoorZG10
import Derived.Deep.RegionLaw
import Derived.Lib.SliceRun
import Derived.Test.YtfbodhfdomdkpaaGreatDoorZG3
import Derived.Test.YtfbodhfdomdkpaaGreatDoorZG4
import Derived.Test.YtfbodhfdomdkpaaGreatDoorZG7
set_option linter.unusedSimpArgs false
set_option linter.unnecessarySimpa false
namespace Go.Proofs.YtfbodhfdomdkpaaGreatDoor
open Go.ChangeShapes Go.WideShapes Go.ChangeAt Go.RowKit Go.Joins
set_option linter.unusedVariables false
set_option maxRecDepth 100000
/-- A list that is made of sorted pieces of s elements each. -/
def Ch (s : Nat) (P : List Lo) : Prop := ∃ cs : List (List Lo), (∀ c ∈ cs, c.length = s ∧ Sorted c) ∧ P = cs.flatten
theorem Ch.nil (s : Nat) : Ch s [] := ⟨[], by simp, rfl⟩
theorem Ch.snoc {s : Nat} {P c : List Lo} (h : Ch s P) (h1 : c.length = s) (h2 : Sorted c) : Ch s (P ++ c) := by
  obtain ⟨cs, k1, rfl⟩ := h
  refine ⟨cs ++ [c], fun d hd => ?_, by simp⟩
  rcases List.mem_append.1 hd with hd | hd
  · exact k1 d hd
  · rw [List.mem_singleton.1 hd]; exact ⟨h1, h2⟩
theorem Ch.cases {s : Nat} {P : List Lo} (h : Ch s P) : P = [] ∨ ∃ c P', P = c ++ P' ∧ c.length = s ∧ Sorted c ∧ Ch s P' := by
  obtain ⟨cs, k1, rfl⟩ := h
  cases cs with
  | nil => exact Or.inl rfl
  | cons c cs => exact Or.inr ⟨c, cs.flatten, rfl, (k1 c (by simp)).1, (k1 c (by simp)).2, cs, fun d hd => k1 d (by simp [hd]), rfl⟩
theorem Ch.small {s : Nat} {P : List Lo} (h : Ch s P) (hl : P.length < s) : P = [] := by
  rcases h.cases with h | ⟨c, P', rfl, h1, _, _⟩
  · exact h
  · rw [List.length_append] at hl; omega
theorem perm_mid {A S S' R L : List Lo} (h : (A ++ (S ++ R)).Perm L) (hs : S'.Perm S) : (A ++ (S' ++ R)).Perm L :=
  (List.Perm.append_left A (List.Perm.append_right R hs)).trans h
variable {w0 : World} {b : Nat} {e : TypeId} {N : Nat} {F0 : List Nat}
theorem insertionSortA (L A S R : List Lo) (hL : L = A ++ (S ++ R)) (pa pb : Int) (hpa : pa = A.length) (hpb : pb = ((A.length + S.length : Nat) : Int)) (n cap : Nat) (w : World) (hn : n = A.length + S.length + R.length) (hc : n ≤ cap) (hcap : n ≤ 4611686018427387903)
    (h : Sb w0 b e N F0 w L) :
    Calls Tryz.prog 201 #[.slice (some ⟨b, 0, none⟩) n cap, .int .i64 pa, .int .i64 pb, .func (.func 74) #[] #[]] w fun ee w' => ee = .returned (.tuple #[]) ∧ ∃ S', S'.Perm S ∧ Sorted S' ∧ Sb w0 b e N F0 w' (A ++ (S' ++ R)) := by
  subst hL; exact insertionSort A S R pa pb hpa hpb n cap w hn hc hcap h
theorem symMergeA (L A U V R : List Lo) (hL : L = A ++ (U ++ (V ++ R))) (hU : Sorted U) (hV : Sorted V) (pa pm pq : Int) (a m q : Nat) (h1 : pa = (a : Int)) (h2 : pm = (m : Int)) (h3 : pq = (q : Int)) (ha : a = A.length) (hm : m = a + U.length) (hq : q = m + V.length) (hUn : 0 < U.length) (hVn : 0 < V.length) (n cap : Nat) (w : World) (hn : n = q + R.length) (hc : n ≤ cap) (hcap : n ≤ 4611686018427387903)
    (h : Sb w0 b e N F0 w L) :
    Calls Tryz.prog 202 #[.slice (some ⟨b, 0, none⟩) n cap, .int .i64 pa, .int .i64 pm, .int .i64 pq, .func (.func 74) #[] #[]] w fun ee w' => ee = .returned (.tuple #[]) ∧ ∃ S', S'.Perm (U ++ V) ∧ Sorted S' ∧ Sb w0 b e N F0 w' (A ++ (S' ++ R)) := by
  subst hL h1 h2 h3; exact symMerge _ A U V R (Nat.le_refl _) hU hV a m q ha hm hq hUn hVn n cap w hn hc hcap h
variable {w0 : World} {b : Nat} {e : TypeId} {N : Nat} {F0 : List Nat}
set_option maxHeartbeats 8000000 in
theorem stable (L : List Lo) (n cap : Nat) (w : World) (hn : n = L.length) (hc : n ≤ cap) (hcap : n ≤ 1099511627776)
    (h : Sb w0 b e N F0 w L) :
    Calls Tryz.prog 130 #[.slice (some ⟨b, 0, none⟩) n cap, .int .i64 n, .func (.func 74) #[] #[]] w fun ee w' => ee = .returned (.tuple #[]) ∧ ∃ L', L'.Perm L ∧ Sorted L' ∧ Sb w0 b e N F0 w' L' := by
  have hcap2 : n ≤ 4611686018427387903 := by omega
  have HN := Lib.hid hn; clear hn
  have HS := Lib.hid h; clear h
  go_enter Tryz.func130, Tryz.ntmps130
  go_upto_region 2 with (fail)
  go_loopw [7, 8] (fun av bv wr => ∃ (a : Nat) (P Q : List Lo), av = .int .i64 a ∧ bv = .int .i64 ((a + 20 : Nat) : Int) ∧ a ≤ n ∧ Hid (P.length = a) ∧ Hid (Ch 20 P) ∧ Hid ((P ++ Q).Perm L) ∧ Hid (Sb w0 b e N F0 wr (P ++ Q))) (fun av _ _ => n - (intOf av).toNat)
  case atStart => exact ⟨0, [], L, rfl, rfl, Nat.zero_le _, Lib.hid rfl, Lib.hid (Ch.nil _), Lib.hid (List.Perm.refl _), HS⟩
  case round =>
    clear HS
    obtain ⟨a, P, Q, rfl, rfl, ha, HP, HC, HM, HS⟩ := hrel
    have HQ : Hid (a + Q.length = n) := Lib.hid (by have := HM.out.length_eq; have := HN.out; have := HP.out; rw [List.length_append] at *; omega)
    obtain ⟨b20, hb20⟩ : ∃ x : Nat, x = a + 20 := ⟨_, rfl⟩
    rw [← hb20]
    have HB20 := Lib.hid hb20
    have hbb : b20 ≤ n + 20 := by omega
    have hab : a < b20 := by omega
    clear hb20
    by_cases hlt : b20 ≤ n
    · go_wp2_with fail
      refine (insertionSortA (P ++ Q) P (Q.take 20) (Q.drop 20) (by rw [List.take_append_drop]) _ _ ?_ ?_ n cap _ ?_ hc hcap2 HS.out).mono ?_
      · rw [HP.out]
      · have := HP.out; have := HQ.out; have := HB20.out; rw [List.length_take]; omega
      · have := HP.out; have := HQ.out; have := HB20.out; rw [List.length_take, List.length_drop]; omega
      · rintro ee w2 ⟨rfl, S', p1, p2, hs⟩
        have HS2 := Lib.hid hs; have HP1 := Lib.hid p1; have HP2 := Lib.hid p2; clear hs p1 p2
        go_wp2_with fail
        go_roundw
        case rel =>
          have hl : S'.length = 20 := by have h0 := HP1.out.length_eq; have := HQ.out; have := HB20.out; rw [h0, List.length_take]; omega
          refine ⟨b20, P ++ S', Q.drop 20, by go_num, by go_num, hlt, Lib.hid ?_, Lib.hid (HC.out.snoc hl HP2.out), Lib.hid ?_, Lib.hid (HS2.out.eq (by simp))⟩
          · have := HP.out; have := HB20.out; rw [List.length_append]; omega
          · rw [List.append_assoc]; exact perm_mid (by rw [List.take_append_drop]; exact HM.out) HP1.out
        case measure => simp [intOf]; have := HB20.out; omega
    · go_wp2_with fail
      refine (insertionSortA (P ++ Q) P Q [] (by simp) _ _ ?_ ?_ n cap _ ?_ hc hcap2 HS.out).mono ?_
      · rw [HP.out]
      · have := HP.out; have := HQ.out; omega
      · have := HP.out; have := HQ.out; simp only [List.length_nil]; omega
      rintro ee w2 ⟨rfl, Q', p1, p2, hs⟩
      have HS2 : Hid (Sb w0 b e N F0 w2 (P ++ Q')) := Lib.hid (hs.eq (by simp))
      have HM2 : Hid ((P ++ Q').Perm L) := Lib.hid ((List.Perm.append_left P p1).trans HM.out)
      have HP2 := Lib.hid p2
      have HL2 : Hid (Q'.length < 20) := Lib.hid (by have := p1.length_eq; have := HQ.out; have := HB20.out; omega)
      clear hs p1 p2 HS HM HQ HB20 hlt hbb hab
      go_upto_region 7 with (fail)
      go_loopw [6, 7, 8, 9] (fun sv _ _ _ wr => ∃ (s : Nat) (P Q : List Lo), sv = .int .i64 s ∧ 20 ≤ s ∧ s ≤ 2 * n + 20 ∧ Hid (Q.length < s) ∧ Hid (Ch s P) ∧ Hid (Sorted Q) ∧ Hid ((P ++ Q).Perm L) ∧ Hid (Sb w0 b e N F0 wr (P ++ Q))) (fun sv _ _ _ _ => 2 * n + 20 - (intOf sv).toNat)
      case atStart => exact ⟨20, P, Q', rfl, Nat.le_refl _, by omega, HL2, HC, HP2, HM2, HS2⟩
      case round =>
        clear HS2 HM2 HP2 HL2 HC HP
        rename World => wo
        clear P Q Q'
        obtain ⟨s, P, Q, rfl, hs1, hs2, HL, HC, HO, HM, HS⟩ := hrel
        have HT : Hid (P.length + Q.length = n) := Lib.hid (by have := HM.out.length_eq; have := HN.out; rw [List.length_append] at *; omega)
        by_cases hsn : s < n
        · obtain ⟨d, hd⟩ : ∃ d : Nat, d = 2 * s := ⟨_, rfl⟩
          have hd2 : (2 : Int) * (s : Int) = (d : Int) := by omega
          have hdb : d ≤ 2 * n := by omega
          have hsd : s < d := by omega
          have HD := Lib.hid hd; clear hd
          go_upto_region 9 with (fail)
          go_loopw [7, 8] (fun av bv wr => ∃ (a : Nat) (D P' : List Lo), av = .int .i64 a ∧ bv = .int .i64 ((a + d : Nat) : Int) ∧ a ≤ n ∧ Hid (D.length = a) ∧ Hid (Ch d D) ∧ Hid (Ch s P') ∧ Hid ((D ++ (P' ++ Q)).Perm L) ∧ Hid (Sb w0 b e N F0 wr (D ++ (P' ++ Q)))) (fun av _ _ => n - (intOf av).toNat)
          case atStart => exact ⟨0, [], P, rfl, by go_num, Nat.zero_le _, Lib.hid rfl, Lib.hid (Ch.nil _), HC, HM, HS⟩
          case round =>
            clear HS HM HC HT
            obtain ⟨a, D, P', rfl, rfl, ha, HDl, HCD, HCP, HM, HS⟩ := hrel
            have HT : Hid (a + (P'.length + Q.length) = n) := Lib.hid (by have := HM.out.length_eq; have := HN.out; have := HDl.out; rw [List.length_append, List.length_append] at *; omega)
            obtain ⟨bd, hbd⟩ : ∃ x : Nat, x = a + d := ⟨_, rfl⟩
            rw [← hbd]
            have HBD := Lib.hid hbd
            have hbb : bd ≤ n + d := by omega
            have hab : a + s < bd := by omega
            clear hbd
            by_cases hlt : bd ≤ n
            · obtain ⟨c1, c2, P2, hP, l1, l2, o1, o2, k2⟩ : ∃ c1 c2 P2, P' = c1 ++ (c2 ++ P2) ∧ c1.length = s ∧ c2.length = s ∧ Sorted c1 ∧ Sorted c2 ∧ Ch s P2 := by
                have q1 := HT.out; have q2 := HL.out; have q3 := HBD.out; have q4 := HD.out
                rcases HCP.out.cases with h | ⟨c1, P1, h, l1, o1, k1⟩
                · subst h; simp only [List.length_nil] at q1; omega
                · rcases k1.cases with h2 | ⟨c2, P2, h2, l2, o2, k2⟩
                  · subst h h2; simp only [List.length_append, List.length_nil] at q1; omega
                  · exact ⟨c1, c2, P2, by rw [h, h2], l1, l2, o1, o2, k2⟩
              have HP3 := Lib.hid hP; have H1 := Lib.hid l1; have H2 := Lib.hid l2; have O1 := Lib.hid o1; have O2 := Lib.hid o2; have K2 := Lib.hid k2
              clear hP l1 l2 o1 o2 k2
              go_wp2_with fail
              refine (symMergeA _ D c1 c2 (P2 ++ Q) (by rw [HP3.out]; simp) O1.out O2.out _ _ _ a (a + s) bd (by first | rfl | go_num) (by first | rfl | go_num) (by first | rfl | go_num) HDl.out.symm (by rw [H1.out]) ?_ ?_ ?_ n cap _ ?_ hc hcap2 HS.out).mono ?_
              · have := H2.out; have := HBD.out; have := HD.out; omega
              · have := H1.out; omega
              · have := H2.out; omega
              · have q1 := HT.out; have := HBD.out; have := HD.out; have := H1.out; have := H2.out; rw [HP3.out] at q1; simp only [List.length_append] at q1 ⊢; omega
              · rintro ee w3 ⟨rfl, S', p1, p2, hs⟩
                have HS3 := Lib.hid hs; have HP1 := Lib.hid p1; have HP2 := Lib.hid p2; clear hs p1 p2
                go_wp2_with fail
                go_roundw
                case rel =>
                  have hl : S'.length = d := by have := HP1.out.length_eq; have := H1.out; have := H2.out; have := HD.out; rw [List.length_append] at *; omega
                  refine ⟨bd, D ++ S', P2, by go_num, by have := HD.out; go_num, hlt, Lib.hid ?_, Lib.hid (HCD.out.snoc hl HP2.out), K2, Lib.hid ?_, Lib.hid (HS3.out.eq (by simp))⟩
                  · have := HDl.out; have := HBD.out; rw [List.length_append]; omega
                  · rw [List.append_assoc]; refine perm_mid ?_ HP1.out; have := HM.out; rw [HP3.out] at this; simpa using this
                case measure => simp [intOf]; have := HBD.out; have := HD.out; omega
            · have hsm : P' = [] ∨ ∃ c1, P' = c1 ∧ c1.length = s ∧ Sorted c1 := by
                have q1 := HT.out; have q3 := HBD.out; have q4 := HD.out
                rcases HCP.out.cases with h | ⟨c1, P1, h, l1, o1, k1⟩
                · exact Or.inl h
                · have := k1.small (by subst h; simp only [List.length_append] at q1; omega)
                  subst this; exact Or.inr ⟨c1, by simpa using h, l1, o1⟩
              obtain ⟨m, hm⟩ : ∃ m : Nat, m = a + s := ⟨_, rfl⟩
              have hm2 : (a : Int) + (s : Int) = (m : Int) := by omega
              have hmb : m ≤ 3 * n := by omega
              have HMM := Lib.hid hm; clear hm
              have HSM := Lib.hid hsm; clear hsm
              by_cases hmn : m < n
              · go_wp2_with fail
                obtain ⟨c1, e1, l1, o1⟩ : ∃ c1, P' = c1 ∧ c1.length = s ∧ Sorted c1 := by
                  rcases HSM.out with h | h
                  · have q1 := HT.out; have := HL.out; have := HMM.out; rw [h] at q1; simp only [List.length_nil] at q1; omega
                  · exact h
                subst e1
                have H1 := Lib.hid l1; have O1 := Lib.hid o1; clear l1 o1
                refine (symMergeA _ D P' Q [] (by simp) O1.out HO.out _ _ _ a m n rfl rfl rfl HDl.out.symm (by rw [H1.out, HMM.out]) ?_ ?_ ?_ n cap _ ?_ hc hcap2 HS.out).mono ?_
                · have := HT.out; have := H1.out; have := HMM.out; omega
                · have := H1.out; omega
                · have := HT.out; have := H1.out; have := HMM.out; omega
                · simp
                · rintro ee w3 ⟨rfl, S', p1, p2, hs⟩
                  have HS3 := Lib.hid hs; have HP1 := Lib.hid p1; have HP2 := Lib.hid p2; clear hs p1 p2
                  go_wp2_with fail
                  go_roundw
                  case rel =>
                    refine ⟨d, D, S', by have := HD.out; go_num, by omega, by omega, Lib.hid ?_, HCD, HP2, Lib.hid ?_, Lib.hid (HS3.out.eq (by simp))⟩
                    · have := HP1.out.length_eq; have := HT.out; have := H1.out; have := HL.out; have := HD.out; rw [List.length_append] at *; omega
                    · exact (List.Perm.append_left D HP1.out).trans HM.out
                  case measure => simp [intOf]; omega
              · go_wp2_with fail
                go_roundw
                case rel =>
                  refine ⟨d, D, P' ++ Q, by have := HD.out; go_num, by omega, by omega, Lib.hid ?_, HCD, Lib.hid ?_, HM, HS⟩
                  · have := HT.out; have := HMM.out; have := HD.out; rw [List.length_append]; omega
                  · rcases HSM.out with h | ⟨c1, e1, l1, o1⟩
                    · rw [h]; exact HO.out
                    · have hq : Q = [] := List.eq_nil_of_length_eq_zero (by have q1 := HT.out; have := HMM.out; rw [e1] at q1; omega)
                      rw [hq, List.append_nil, e1]; exact o1
                case measure => simp [intOf]; omega
        · have HF : Hid (Sorted (P ++ Q)) := by
            refine Lib.hid ?_
            have q1 := HT.out
            rcases HC.out.cases with h | ⟨c1, P1, h, l1, o1, k1⟩
            · rw [h]; exact HO.out
            · have hp1 := k1.small (by subst h; simp only [List.length_append] at q1; omega)
              have hq : Q = [] := List.eq_nil_of_length_eq_zero (by subst h; simp only [List.length_append] at q1; omega)
              rw [hq, h, hp1]; simpa using o1
          go_wp2_with fail
          go_end0
          exact ⟨rfl, _, HM.out, HF.out, HS.out⟩
end Go.Proofs.YtfbodhfdomdkpaaGreatDoor
namespace Go.Proofs.YtfbodhfdomdkpaaGreatDoor
open Go.ChangeShapes Go.WideShapes Go.ChangeAt Go.RowKit Go.Joins
set_option linter.unusedVariables false
set_option maxRecDepth 100000
set_option maxHeartbeats 4000000 in
theorem cloneSteps (l : List St) (a : Option Addr) (cap B : Nat) (w : World) (hr : Rd EStep 2 w B a cap l) (hB : B ≤ w.heap.size) (hz : l.length ≤ 1048576) :
    Calls Tryz.prog 129 #[.slice a l.length cap] w fun ee w' => ∃ a' cap', ee = .returned (.slice a' l.length cap') ∧ Ow EStep 2 w' w.heap.size w'.heap.size a' cap' l ∧ Below w.heap.size w w' := by
  obtain ⟨hl1, hl2⟩ := hr.len
  have HR := Lib.hid hr
  have h0 := AppL.empty (E := EStep) (n := 2) (e := 79) w w.heap.size (Nat.le_refl _)
  have hsr := Lib.hid ((hr.srcs EStep.flat).agree EStep.elem (w' := w.alloc (.cells #[] 79)) (fun b o ha hne => by
    obtain ⟨b', o', ha', hb⟩ := (by obtain ⟨b', o', F, ha, hb, _⟩ := hr.get 0 (List.length_pos_iff.2 hne); exact ⟨b', o', ha, hb⟩ : ∃ b' o', a = some ⟨b', o', none⟩ ∧ b' < B)
    rw [ha] at ha'; injection ha' with ha'; injection ha' with h1; subst h1
    exact (below1 w _).block b (by omega)) (fun f hf => by cases hf))
  obtain ⟨a', cap', w', hrun, happ, hbel, hoth, _, hsz⟩ := run_appL (P := Tryz.prog) (w.alloc (.cells #[] 79)) EStep.elem 27 27 (.agg #[.int .i64 0, .bool false]) 16 Tryz.underlying27 info_Step rfl w.heap.size _ 0 [] [] h0 (by simp) (by simp) a cap l [] hsr.out (by simp) (by simp [maxLen]; omega) (by simp; omega)
  have HAPP := Lib.hid happ
  have HB := Lib.hid ((below1 w (.cells #[] 79)).trans hbel)
  clear happ hbel hoth hsz hr h0
  have hnil := Lib.run_eql_slice_nil (P := Tryz.prog) w 27 79 a l.length cap 0 0 Tryz.underlying27
  cases a with
  | none =>
    have hl : l = [] := by
      by_cases h : l = []
      · exact h
      · obtain ⟨b, o, h2, _⟩ := hsr.out.2 h; cases h2
    subst hl
    simp only [List.length_nil] at hnil
    go_enter Tryz.func129, Tryz.ntmps129
    go_wp2_with fail
    go_ret
    exact ⟨none, 0, rfl, Ow.nil _ _ _ _ _ (by simp [maxLen]), Below.refl _ _⟩
  | some ad =>
    go_enter Tryz.func129, Tryz.ntmps129
    go_wp2_with (at_builtin; refine Lib.wpList_append_run _ rfl _ _ _ _ rfl _ _ rfl rfl _ _ hrun ?_)
    go_ret
    exact ⟨a', cap', rfl, ((HAPP.out).own (by simp) (Nat.le_refl _) (by simp)), HB.out⟩
theorem App.some {α : Type} {E : World → Nat → Nat → α → List Nat → Prop} {n : Nat} {e : TypeId} {nd : Prop} {w : World} {lo hi cap : Nat} {a : Option Addr} {l : List α} (h : App E n e nd w lo hi a cap l) (hl : l ≠ []) : ∃ g, a = .some ⟨g, 0, none⟩ := by
  rcases h with h | ⟨g, _, _, h, _⟩
  · exact absurd h.2.2 hl
  · exact ⟨g, h⟩
theorem EStep.sl_unf {w : World} {lo hi cap : Nat} {a : Option Addr} {l : List St} (h : Ow EStep 2 w lo hi a cap l) : ∃ F, Sl EStep 2 w a cap l F ∧ F.Nodup ∧ ∀ f ∈ F, lo ≤ f ∧ f < hi ∧ Unf w f := h
set_option maxHeartbeats 4000000 in
theorem impl_copyLosses (l : List Lo) (a : Option Addr) (cap B : Nat) (w : World) (hr : Rd ELoss 2 w B a cap l) (hB : B ≤ w.heap.size) (hz : szLo l ≤ 1048576) :
    Calls Tryz.prog 72 #[.slice a l.length cap] w fun ee w' => ∃ g cap', ee = .returned (.slice (some ⟨g, 0, none⟩) l.length cap') ∧ App ELoss 2 29 True w' w.heap.size w'.heap.size (some ⟨g, 0, none⟩) cap' l ∧ Below w.heap.size w w' := by
  obtain ⟨hl1, hl2⟩ := hr.len
  have hll := length_le_szLo l
  have HR := Lib.hid hr; clear hr
  have HZ := Lib.hid hz
  have hln : l.length ≤ 1048576 := by omega
  clear hz hll
  have h0 := Lib.hid (App.empty (E := ELoss) (n := 2) (e := 29) (nd := True) w w.heap.size (w.heap.size + 1) (Nat.le_refl _) (by omega))
  go_enter Tryz.func72, Tryz.ntmps72
  go_wp2_with fail
  go_loopw [3, 5, 9] (fun q _ i wr => ∃ (j : Nat) (ar : Option Addr) (cr : Nat), (∃ g, ar = some ⟨g, 0, none⟩) ∧ j ≤ l.length ∧ i = .int .i64 j ∧ q = .slice ar (l.take j).length cr ∧ App ELoss 2 29 True wr w.heap.size wr.heap.size ar cr (l.take j) ∧ Below w.heap.size w wr) (fun _ _ i _ => l.length - (intOf i).toNat)
  case atStart => exact ⟨0, _, _, ⟨_, rfl⟩, Nat.zero_le _, rfl, rfl, by simpa using h0.out, below1 _ _⟩
  case round =>
    obtain ⟨j, ar, cr, ⟨gr, rfl⟩, hj, rfl, rfl, happ, hb⟩ := hrel
    have hbs := hb.size
    have HA := Lib.hid happ; clear happ
    have HB := Lib.hid hb; clear hb
    have hlen : (l.take j).length = j := by rw [List.length_take]; omega
    by_cases hlt : j < l.length
    · obtain ⟨b, o, a2, c2, rfl, hbl, d0, d1, hi, hq⟩ := (HR.out.below ELoss.loc HB.out hB).loss j hlt
      have hlb : b < wr.heap.size := by omega
      have HQ := Lib.hid hq
      have HI := Lib.hid hi
      have hzj := szLo_get l j hlt
      have hzp : l[j].2.length ≤ 1048576 := by have := HZ.out; omega
      clear hq hi hzj
      have H5 := Lib.hid (below1 wr (.cells (cL l[j] a2 c2) 29))
      have hx5 := Is.new wr (cL l[j] a2 c2) 29
      have hs5 : (wr.alloc (.cells (cL l[j] a2 c2) 29)).heap.size = wr.heap.size + 1 := by simp
      go_wp2_with fail
      generalize wr.alloc (.cells (cL l[j] a2 c2) 29) = W5 at *
      obtain ⟨y0, y1⟩ := hx5.cells2
      have lx : wr.heap.size < W5.heap.size := by omega
      have HQ5 := Lib.hid (HQ.out.below EStep.loc H5.out (by omega))
      have hsB : B ≤ W5.heap.size := by omega
      have hsW : w.heap.size ≤ W5.heap.size := by omega
      have HK := Lib.hid (fun k hk => (HA.out.row k hk).2)
      clear d0 d1
      refine wp_region_held_drew (S := fun w' => (∀ b o, (b < w.heap.size ∨ b = wr.heap.size) → w'.cell? ⟨b, o, none⟩ = W5.cell? ⟨b, o, none⟩) ∧ Below (w.heap.size) W5 w') (by kernel_rfl) (by first | exact ⟨fun _ _ _ => rfl, (Below.refl _ _).drew⟩ | exact keep_stepX (by assumption) (by assumption) (by first | omega | ((try simp only [World.size_drew, size_alloc]); omega) | (have := (‹(_ ∧ Below (w.heap.size) W5 _)›).2.size; (try simp only [World.size_drew, size_alloc] at this ⊢); omega)) (by first | omega | ((try simp only [World.size_drew, size_alloc]); omega) | (have := (‹(_ ∧ Below (w.heap.size) W5 _)›).2.size; (try simp only [World.size_drew, size_alloc] at this ⊢); omega))) (fun hHeld => ?_)
      refine wpAnyH_take (i := 0) (oi := ⟨some 13, _, _, _, _, _⟩) (v := ?_) rfl (by kernel_rfl) (by kernel_rfl) (by kernel_rfl) (fun _ _ _ h => h) (Or.inl ⟨by rfl, ?_⟩) (by assumption) ?_
      rotate_left 1
      · (intro w hSw; (try dsimp only at hSw); go_simp; try (with_reducible rfl))
      try simp only [Act.put, List.setIfInBounds_toArray, List.set_cons_zero, List.set_cons_succ]
      refine wpAnyH_take (i := 1) (oi := ⟨some 14, _, _, _, _, _⟩) (v := ?_) rfl (by kernel_rfl) (by kernel_rfl) (by kernel_rfl) (fun _ _ _ h => h) (Or.inl ⟨by rfl, ?_⟩) (by assumption) ?_
      rotate_left 1
      · (intro w hSw; (try dsimp only at hSw); go_simp; try (with_reducible rfl))
      try simp only [Act.put, List.setIfInBounds_toArray, List.set_cons_zero, List.set_cons_succ]
      refine wpAnyH_take (i := 2) (oi := ⟨some 15, _, _, _, _, _⟩) (v := ?_) rfl (by kernel_rfl) (by kernel_rfl) (by kernel_rfl) (fun _ _ _ h => h) (Or.inl ⟨by rfl, ?_⟩) (by assumption) ?_
      rotate_left 1
      · (intro w hSw; (try dsimp only at hSw); go_simp; try (with_reducible rfl))
      try simp only [Act.put, List.setIfInBounds_toArray, List.set_cons_zero, List.set_cons_succ]
      refine wpAnyH_take (i := 3) (oi := ⟨some 16, _, _, _, _, _⟩) (v := ?_) rfl (by kernel_rfl) (by kernel_rfl) (by kernel_rfl) (fun _ _ _ h => h) (Or.inl ⟨by rfl, ?_⟩) (by assumption) ?_
      rotate_left 1
      · (intro w hSw; (try dsimp only at hSw); go_simp; try (with_reducible rfl))
      try simp only [Act.put, List.setIfInBounds_toArray, List.set_cons_zero, List.set_cons_succ]
      refine wpAnyH_take (i := 4) (oi := ⟨some 17, _, _, _, _, _⟩) (v := ?_) rfl (by kernel_rfl) (by kernel_rfl) (by kernel_rfl) (fun _ _ _ h => h) (Or.inl ⟨by rfl, ?_⟩) (by assumption) ?_
      rotate_left 1
      · (intro w hSw; (try dsimp only at hSw); go_simp; try (with_reducible rfl))
      try simp only [Act.put, List.setIfInBounds_toArray, List.set_cons_zero, List.set_cons_succ]
      refine wpAnyH_ready (rs := [5]) (by kernel_rfl) (by simp) ?_
      refine AllReadyH.cons (o := ⟨some 18, _, _, _, _, _⟩) rfl (fun K hK => ?_) AllReadyH.nil
      go_simp
      ((go_at_call 129; refine (cloneSteps l[j].2 a2 c2 B _ (HQ5.out.below EStep.loc (‹_ ∧ Below (w.heap.size) W5 _›).2 hB) (Nat.le_trans (by omega) (‹_ ∧ Below (w.heap.size) W5 _›).2.size) hzp).mono ?_; rintro e w3 ⟨a3, c3, rfl, ho3, hb3⟩; have HB3 := Lib.hid (show Below W5.heap.size W5 w3 from (Below.refl _ _).drew.trans hb3); obtain ⟨G, g1, g2, g3⟩ := ho3; have HG1 := Lib.hid g1; have HG2 := Lib.hid g2; have HG3 := Lib.hid g3))
      go_wp2_with fail
      refine hK.out _ _ (by first | exact ⟨fun _ _ _ => rfl, (Below.refl _ _).drew⟩ | exact keep_stepX (by assumption) (by assumption) (by first | omega | ((try simp only [World.size_drew, size_alloc]); omega) | (have := (‹(_ ∧ Below (w.heap.size) W5 _)›).2.size; (try simp only [World.size_drew, size_alloc] at this ⊢); omega)) (by first | omega | ((try simp only [World.size_drew, size_alloc]); omega) | (have := (‹(_ ∧ Below (w.heap.size) W5 _)›).2.size; (try simp only [World.size_drew, size_alloc] at this ⊢); omega))) (fun hHeld => ?_)
      clear hK K
      try simp only [Act.put, List.setIfInBounds_toArray, List.set_cons_zero, List.set_cons_succ]
      refine wpAnyH_take (i := 6) (oi := ⟨some 19, _, _, _, _, _⟩) (v := ?_) rfl (by kernel_rfl) (by kernel_rfl) (by kernel_rfl) (fun _ _ _ h => h) (Or.inl ⟨by rfl, ?_⟩) (by assumption) ?_
      rotate_left 1
      · (intro w hSw; (try dsimp only at hSw); go_simp; try (with_reducible rfl))
      try simp only [Act.put, List.setIfInBounds_toArray, List.set_cons_zero, List.set_cons_succ]
      refine wpAnyH_ready (rs := [7]) (by kernel_rfl) (by simp) ?_
      refine AllReadyH.cons (o := ⟨some 20, _, _, _, _, _⟩) rfl (fun K hK => ?_) AllReadyH.nil
      focus (go_simp; go_wp2_with fail; refine hK.out _ _ (by exact keep_stepX (by assumption) (below1 _ _) (by first | omega | ((try simp only [World.size_drew, size_alloc]); omega) | (have := (‹(_ ∧ Below (w.heap.size) W5 _)›).2.size; (try simp only [World.size_drew, size_alloc] at this ⊢); omega)) (by first | omega | ((try simp only [World.size_drew, size_alloc]); omega) | (have := (‹(_ ∧ Below (w.heap.size) W5 _)›).2.size; (try simp only [World.size_drew, size_alloc] at this ⊢); omega))) (fun hHeld => ?_); clear hK K; try simp only [Act.put, List.setIfInBounds_toArray, List.set_cons_zero, List.set_cons_succ])
      refine wpAnyH_ready (rs := [8]) (by kernel_rfl) (by simp) ?_
      refine AllReadyH.cons (o := ⟨some 21, _, _, _, _, _⟩) rfl (fun K hK => ?_) AllReadyH.nil
      focus (((obtain ⟨ar2, cr2, w6, hrun, happ6, hb6, hout6, hsz6⟩ := run_app (P := Tryz.prog) (w3.alloc (.cells #[.int .i64 l[j].1, .slice a3 l[j].2.length c3] 29)) ELoss.elem 24 24 (.agg #[.int .i64 0, .slice none 0 0]) 32 Tryz.underlying24 info_Loss rfl w.heap.size wr.heap.size (some ⟨gr, 0, none⟩) cr (l.take j) (((HA.out.below ELoss.elem H5.out (Nat.le_refl _)).below ELoss.elem HB3.out (by omega)).below ELoss.elem (below1 w3 _) (by have := HB3.out.size; omega)) (by have := HB3.out.size; simp; omega) (by have := HB.out.size; omega) (some ⟨w3.heap.size, 0, none⟩) 1 [l[j]] G (Srcs.one ⟨(Is.new w3 _ _).cell 0 rfl, HI.out, a3, c3, (Is.new w3 _ _).cell 1 rfl, HG1.out.agree EStep.loc (fun f hf => (below1 w3 _).block f (HG3.out f hf).2.1)⟩) HG2.out (fun f hf => ⟨by have := (HG3.out f hf).1; simp only [World.size_drew] at this; omega, by have := (HG3.out f hf).2.1; simp; omega, (HG3.out f hf).2.2.alloc _⟩) (by rw [hlen]; simp [maxLen]; omega) (by rw [hlen]; simp; omega); rw [hlen] at hrun; refine step_append_run _ rfl _ _ _ _ rfl _ _ rfl rfl _ _ hrun ?_; have hx6 := hout6 wr.heap.size (by have := HB3.out.size; simp only [size_alloc]; omega) (fun k hk e => by have := HK.out k hk; omega))); refine hK.out _ _ (by exact keep_stepY (by assumption) (by assumption) (by assumption)) (fun hHeld => ?_); clear hK K; try simp only [Act.put, List.setIfInBounds_toArray, List.set_cons_zero, List.set_cons_succ])
      refine wpAnyH_take (i := 9) (oi := ⟨some 3, _, _, _, _, _⟩) (v := ?_) rfl (by kernel_rfl) (by kernel_rfl) (by kernel_rfl) (fun _ _ _ h => h) (Or.inl ⟨by rfl, ?_⟩) (by assumption) ?_
      rotate_left 1
      · (intro w hSw; (try dsimp only at hSw); go_simp; try (with_reducible rfl))
      try simp only [Act.put, List.setIfInBounds_toArray, List.set_cons_zero, List.set_cons_succ]
      refine wpAnyH_done (by kernel_rfl) ?_ _
      all_goals
        have HB6 := Lib.hid (show Below w.heap.size W5 _ from (‹_ ∧ Below (w.heap.size) W5 _›).2)
        go_wp2_with fail
        go_roundw
        case rel => exact ⟨j + 1, ar2, cr2, App.some happ6 (List.append_ne_nil_of_right_ne_nil _ (by simp)), by omega, by go_num, by rw [List.length_take], by rw [take_snoc l j hlt]; exact happ6, (HB.out.trans (H5.out.mono (by omega))).trans HB6.out⟩
        case measure => simp [intOf]; omega
    · have hjj : l.length = j := by omega
      rw [← hjj, List.take_length] at HA ⊢
      go_wp2_with fail
      go_ret
      exact ⟨gr, cr, rfl, HA.out, HB.out⟩
theorem Sb.of_app {w : World} {cap : Nat} {l : List Lo} {g : Nat} {cur : Array Value} {F : List Nat} {e : TypeId} (hg : w.heap[g]? = some (.cells cur e (0, 0))) (hcap : l.length ≤ cap) (hcs : cur.size = cap * 2) (hrow : Row ELoss 2 w g 0 l F) (hgF : g ∉ F) (hF : ∀ f ∈ F, f < w.heap.size) : Sb w g e (cap * 2) F w l :=
  ⟨Touch.refl _ _, ⟨cur, hg, hcs⟩, (Array.getElem?_eq_some_iff.1 hg).1, Nat.mul_le_mul_right 2 hcap, ⟨F, hrow, List.Perm.refl _⟩, hgF, hF⟩
theorem sb_ow {w0 w : World} {b : Nat} {e : TypeId} {N lo hi cap : Nat} {F0 : List Nat} {L : List Lo} (h : Sb w0 b e N F0 w L) (hN : N = cap * 2) (hc : cap ≤ maxLen) (hnd : F0.Nodup) (hlo : lo ≤ b) (hbh : b < hi) (hF : ∀ f ∈ F0, lo ≤ f ∧ f < hi ∧ Unf w0 f) : Ow ELoss 2 w lo hi (some ⟨b, 0, none⟩) cap L := by
  obtain ⟨h1, h2, h3, h4, ⟨F, h5, h6⟩, h7, h8⟩ := h
  by_cases hL : L = []
  · subst hL; exact Ow.nil _ _ _ _ _ hc
  · refine ⟨b :: F, ⟨by omega, hc, fun h => absurd h hL, fun _ => ⟨b, 0, F, rfl, rfl, h5⟩⟩, List.nodup_cons.2 ⟨fun hm => h7 (h6.mem_iff.1 hm), h6.nodup_iff.2 hnd⟩, ?_⟩
    intro f hf
    rcases List.mem_cons.1 hf with rfl | hf
    · exact ⟨hlo, hbh, h2.unf⟩
    · obtain ⟨k1, k2, k3⟩ := hF f (h6.mem_iff.1 hf)
      exact ⟨k1, k2, h1.unf f k3⟩
theorem sortStable (l : List Lo) (cap : Nat) (w : World) {w0 : World} {b : Nat} {e : TypeId} {N : Nat} {F0 : List Nat} (hc : l.length ≤ cap) (hn : l.length ≤ 1048576) (h : Sb w0 b e N F0 w l) :
    Calls Tryz.prog 73 #[.slice (some ⟨b, 0, none⟩) l.length cap, .func (.func 74) #[] #[]] w fun ee w' => ee = .returned (.tuple #[]) ∧ ∃ L', L'.Perm l ∧ Sorted L' ∧ Sb w0 b e N F0 w' L' := by
  have HS := Lib.hid h; clear h
  go_enter Tryz.func73, Tryz.ntmps73
  go_wp2_with fail
  refine (stable l l.length cap w rfl hc (by omega) HS.out).mono ?_
  rintro ee w2 ⟨rfl, h⟩
  have H := Lib.hid h; clear h
  go_wp2_with fail
  go_end0
  exact ⟨rfl, H.out⟩
set_option maxHeartbeats 4000000 in
theorem impl_SortLosses (l : List Lo) (a : Option Addr) (cap B : Nat) (w : World) (hr : Rd ELoss 2 w B a cap l) (hz : szLo l ≤ 1048576) (hB : B ≤ w.heap.size) :
    Calls Tryz.prog 10 #[.slice a l.length cap] w fun ee w' => ∃ a' cap', ee = .returned (.slice a' (srtL l).length cap') ∧ Ow ELoss 2 w' w.heap.size w'.heap.size a' cap' (srtL l) ∧ Below w.heap.size w w' := by
  have HR := Lib.hid hr; clear hr
  have hll := length_le_szLo l
  have HL := Lib.hid (srtL_length l)
  go_enter Tryz.func10, Tryz.ntmps10
  go_wp2_with fail
  refine (impl_copyLosses l a cap B w HR.out hB hz).mono ?_
  rintro ee w2 ⟨g, c2, rfl, happ, hb2⟩
  rcases happ with ⟨h, _⟩ | ⟨g', cur, F, hg', k1, k2, k3, k4, k5, k6, k7, k8, k9, k10⟩
  · cases h
  injection hg' with hg'
  injection hg' with hg'
  subst hg'
  have HSB := Lib.hid (Sb.of_app k3 k4 k6 k7 k8 (fun f hf => (k10 f hf).2.1))
  have HF := Lib.hid (And.intro (k9 trivial) k10)
  have HG := Lib.hid (And.intro k1 k2)
  have HB2 := Lib.hid hb2
  have HC := Lib.hid k5
  have hn4 : l.length ≤ c2 := k4
  have hln : l.length ≤ 1048576 := by omega
  clear k1 k2 k3 k4 k5 k6 k7 k8 k9 k10 hb2
  go_wp2_with fail
  refine (sortStable l c2 w2 hn4 hln HSB.out).mono ?_
  rintro ee w3 ⟨rfl, L', p1, p2, hs⟩
  have he := srtL_eq p1 p2
  subst he
  have HS := Lib.hid hs
  have ht := hs.touch
  have HT := Lib.hid ht
  clear hs ht p1 p2
  rw [← HL.out]
  go_wp2_with fail
  go_ret
  refine ⟨_, c2, rfl, ?_, ?_⟩
  · exact sb_ow HS.out rfl HC.out HF.out.1 HG.out.1 (by have := HT.out.size; have := HG.out.2; omega) (fun f hf => ⟨(HF.out.2 f hf).1, by have := HT.out.size; have := (HF.out.2 f hf).2.1; omega, (HF.out.2 f hf).2.2⟩)
  · exact HB2.out.trans (HT.out.below HB2.out.size (fun f hf => by rw [List.mem_singleton.1 hf]; exact HG.out.1))
end Go.Proofs.YtfbodhfdomdkpaaGreatDoor
