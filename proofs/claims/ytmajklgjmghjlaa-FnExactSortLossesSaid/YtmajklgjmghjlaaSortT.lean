/- Contracts and lemmas for the proofs of this seat: SortT. No condition beyond those stated. -/
import Derived.Test.YtmajklgjmghjlaaRows
import Derived.WalkKit
import Derived.ProofKit
import Derived.OpenShut
import Derived.Handy
import Derived.Lib.Hide
import Derived.Lib.SmallJoins
import Derived.Deep.RegionHeld3
import Derived.Deep.QuietTactic
import Derived.BigQuiet
import Derived.BigRegion
import Derived.Test.YtmajklgjmghjlaaBase
import Derived.Test.YtmajklgjmghjlaaGen
import Derived.Test.YtmajklgjmghjlaaKit
import Derived.Test.YtmajklgjmghjlaaMark
import Derived.Test.YtmajklgjmghjlaaPath1
import Derived.Test.YtmajklgjmghjlaaPath2
import Derived.Test.YtmajklgjmghjlaaSortP
import Derived.Test.YtmajklgjmghjlaaSortW
import Derived.Test.YtmajklgjmghjlaaSortR
import Derived.Test.YtmajklgjmghjlaaSortI
import Derived.Test.YtmajklgjmghjlaaSortM
import Derived.Test.YtmajklgjmghjlaaSortG
namespace Go.Proofs.Ytmajklgjmghjlaa
open Go.ChangeShapes Go.WideShapes Go.ChangeAt Go.RowKit Go.Joins
set_option linter.unusedVariables false
set_option maxRecDepth 100000
/-- A list that is made of sorted pieces of s elements each. -/
def Ch (s : Nat) (P : List Lo) : Prop := ∃ cs : List (List Lo), (∀ c ∈ cs, c.length = s ∧ Sorted c) ∧ P = cs.flatten
theorem Ch.nil (s : Nat) : Ch s [] := ⟨[], by simp, rfl⟩
theorem Ch.snoc {s : Nat} {P c : List Lo} (h : Ch s P) (h1 : c.length = s) (h2 : Sorted c) : Ch s (P ++ c) := by
  obtain ⟨cs, k1, rfl⟩ := h
  refine ⟨cs ++ [c], fun d hd => ?_, by simp⟩
  rcases List.mem_append.1 hd with hd | hd
  · exact k1 d hd
  · rw [List.mem_singleton.1 hd]; exact ⟨h1, h2⟩
theorem Ch.cases {s : Nat} {P : List Lo} (h : Ch s P) : P = [] ∨ ∃ c P', P = c ++ P' ∧ c.length = s ∧ Sorted c ∧ Ch s P' := by
  obtain ⟨cs, k1, rfl⟩ := h
  cases cs with
  | nil => exact Or.inl rfl
  | cons c cs => exact Or.inr ⟨c, cs.flatten, rfl, (k1 c (by simp)).1, (k1 c (by simp)).2, cs, fun d hd => k1 d (by simp [hd]), rfl⟩
theorem Ch.small {s : Nat} {P : List Lo} (h : Ch s P) (hl : P.length < s) : P = [] := by
  rcases h.cases with h | ⟨c, P', rfl, h1, _, _⟩
  · exact h
  · rw [List.length_append] at hl; omega
theorem perm_mid {A S S' R L : List Lo} (h : (A ++ (S ++ R)).Perm L) (hs : S'.Perm S) : (A ++ (S' ++ R)).Perm L :=
  (List.Perm.append_left A (List.Perm.append_right R hs)).trans h
variable {w0 : World} {b : Nat} {e : TypeId} {N : Nat} {F0 : List Nat}
theorem insertionSortA (L A S R : List Lo) (hL : L = A ++ (S ++ R)) (pa pb : Int) (hpa : pa = A.length) (hpb : pb = ((A.length + S.length : Nat) : Int)) (n cap : Nat) (w : World) (hn : n = A.length + S.length + R.length) (hc : n ≤ cap) (hcap : n ≤ 4611686018427387903)
    (h : Sb w0 b e N F0 w L) :
    Calls Try.prog 33 #[.slice (some ⟨b, 0, none⟩) n cap, .int .i64 pa, .int .i64 pb, .func (.func 17) #[] #[]] w fun ee w' => ee = .returned (.tuple #[]) ∧ ∃ S', S'.Perm S ∧ Sorted S' ∧ Sb w0 b e N F0 w' (A ++ (S' ++ R)) := by
  subst hL; exact insertionSort A S R pa pb hpa hpb n cap w hn hc hcap h
theorem symMergeA (L A U V R : List Lo) (hL : L = A ++ (U ++ (V ++ R))) (hU : Sorted U) (hV : Sorted V) (pa pm pq : Int) (a m q : Nat) (h1 : pa = (a : Int)) (h2 : pm = (m : Int)) (h3 : pq = (q : Int)) (ha : a = A.length) (hm : m = a + U.length) (hq : q = m + V.length) (hUn : 0 < U.length) (hVn : 0 < V.length) (n cap : Nat) (w : World) (hn : n = q + R.length) (hc : n ≤ cap) (hcap : n ≤ 4611686018427387903)
    (h : Sb w0 b e N F0 w L) :
    Calls Try.prog 34 #[.slice (some ⟨b, 0, none⟩) n cap, .int .i64 pa, .int .i64 pm, .int .i64 pq, .func (.func 17) #[] #[]] w fun ee w' => ee = .returned (.tuple #[]) ∧ ∃ S', S'.Perm (U ++ V) ∧ Sorted S' ∧ Sb w0 b e N F0 w' (A ++ (S' ++ R)) := by
  subst hL h1 h2 h3; exact symMerge _ A U V R (Nat.le_refl _) hU hV a m q ha hm hq hUn hVn n cap w hn hc hcap h
variable {w0 : World} {b : Nat} {e : TypeId} {N : Nat} {F0 : List Nat}
set_option maxHeartbeats 8000000 in
theorem stable (L : List Lo) (n cap : Nat) (w : World) (hn : n = L.length) (hc : n ≤ cap) (hcap : n ≤ 1099511627776)
    (h : Sb w0 b e N F0 w L) :
    Calls Try.prog 26 #[.slice (some ⟨b, 0, none⟩) n cap, .int .i64 n, .func (.func 17) #[] #[]] w fun ee w' => ee = .returned (.tuple #[]) ∧ ∃ L', L'.Perm L ∧ Sorted L' ∧ Sb w0 b e N F0 w' L' := by
  have hcap2 : n ≤ 4611686018427387903 := by omega
  have HN := Lib.hid hn; clear hn
  have HS := Lib.hid h; clear h
  go_enter Try.func26, Try.ntmps26
  go_upto_region 2 with (fail)
  go_loopw [7, 8] (fun av bv wr => ∃ (a : Nat) (P Q : List Lo), av = .int .i64 a ∧ bv = .int .i64 ((a + 20 : Nat) : Int) ∧ a ≤ n ∧ Hid (P.length = a) ∧ Hid (Ch 20 P) ∧ Hid ((P ++ Q).Perm L) ∧ Hid (Sb w0 b e N F0 wr (P ++ Q))) (fun av _ _ => n - (intOf av).toNat)
  case atStart => exact ⟨0, [], L, rfl, rfl, Nat.zero_le _, Lib.hid rfl, Lib.hid (Ch.nil _), Lib.hid (List.Perm.refl _), HS⟩
  case round =>
    clear HS
    obtain ⟨a, P, Q, rfl, rfl, ha, HP, HC, HM, HS⟩ := hrel
    have HQ : Hid (a + Q.length = n) := Lib.hid (by have := HM.out.length_eq; have := HN.out; have := HP.out; rw [List.length_append] at *; omega)
    obtain ⟨b20, hb20⟩ : ∃ x : Nat, x = a + 20 := ⟨_, rfl⟩
    rw [← hb20]
    have HB20 := Lib.hid hb20
    have hbb : b20 ≤ n + 20 := by omega
    have hab : a < b20 := by omega
    clear hb20
    by_cases hlt : b20 ≤ n
    · go_wp2_with fail
      refine (insertionSortA (P ++ Q) P (Q.take 20) (Q.drop 20) (by rw [List.take_append_drop]) _ _ ?_ ?_ n cap _ ?_ hc hcap2 HS.out).mono ?_
      · rw [HP.out]
      · have := HP.out; have := HQ.out; have := HB20.out; rw [List.length_take]; omega
      · have := HP.out; have := HQ.out; have := HB20.out; rw [List.length_take, List.length_drop]; omega
      · rintro ee w2 ⟨rfl, S', p1, p2, hs⟩
        have HS2 := Lib.hid hs; have HP1 := Lib.hid p1; have HP2 := Lib.hid p2; clear hs p1 p2
        go_wp2_with fail
        go_roundw
        case rel =>
          have hl : S'.length = 20 := by have h0 := HP1.out.length_eq; have := HQ.out; have := HB20.out; rw [h0, List.length_take]; omega
          refine ⟨b20, P ++ S', Q.drop 20, by go_num, by go_num, hlt, Lib.hid ?_, Lib.hid (HC.out.snoc hl HP2.out), Lib.hid ?_, Lib.hid (HS2.out.eq (by simp))⟩
          · have := HP.out; have := HB20.out; rw [List.length_append]; omega
          · rw [List.append_assoc]; exact perm_mid (by rw [List.take_append_drop]; exact HM.out) HP1.out
        case measure => simp [intOf]; have := HB20.out; omega
    · go_wp2_with fail
      refine (insertionSortA (P ++ Q) P Q [] (by simp) _ _ ?_ ?_ n cap _ ?_ hc hcap2 HS.out).mono ?_
      · rw [HP.out]
      · have := HP.out; have := HQ.out; omega
      · have := HP.out; have := HQ.out; simp only [List.length_nil]; omega
      rintro ee w2 ⟨rfl, Q', p1, p2, hs⟩
      have HS2 : Hid (Sb w0 b e N F0 w2 (P ++ Q')) := Lib.hid (hs.eq (by simp))
      have HM2 : Hid ((P ++ Q').Perm L) := Lib.hid ((List.Perm.append_left P p1).trans HM.out)
      have HP2 := Lib.hid p2
      have HL2 : Hid (Q'.length < 20) := Lib.hid (by have := p1.length_eq; have := HQ.out; have := HB20.out; omega)
      clear hs p1 p2 HS HM HQ HB20 hlt hbb hab
      go_upto_region 7 with (fail)
      go_loopw [6, 7, 8, 9] (fun sv _ _ _ wr => ∃ (s : Nat) (P Q : List Lo), sv = .int .i64 s ∧ 20 ≤ s ∧ s ≤ 2 * n + 20 ∧ Hid (Q.length < s) ∧ Hid (Ch s P) ∧ Hid (Sorted Q) ∧ Hid ((P ++ Q).Perm L) ∧ Hid (Sb w0 b e N F0 wr (P ++ Q))) (fun sv _ _ _ _ => 2 * n + 20 - (intOf sv).toNat)
      case atStart => exact ⟨20, P, Q', rfl, Nat.le_refl _, by omega, HL2, HC, HP2, HM2, HS2⟩
      case round =>
        clear HS2 HM2 HP2 HL2 HC HP
        rename World => wo
        clear P Q Q'
        obtain ⟨s, P, Q, rfl, hs1, hs2, HL, HC, HO, HM, HS⟩ := hrel
        have HT : Hid (P.length + Q.length = n) := Lib.hid (by have := HM.out.length_eq; have := HN.out; rw [List.length_append] at *; omega)
        by_cases hsn : s < n
        · obtain ⟨d, hd⟩ : ∃ d : Nat, d = 2 * s := ⟨_, rfl⟩
          have hd2 : (2 : Int) * (s : Int) = (d : Int) := by omega
          have hdb : d ≤ 2 * n := by omega
          have hsd : s < d := by omega
          have HD := Lib.hid hd; clear hd
          go_upto_region 9 with (fail)
          go_loopw [7, 8] (fun av bv wr => ∃ (a : Nat) (D P' : List Lo), av = .int .i64 a ∧ bv = .int .i64 ((a + d : Nat) : Int) ∧ a ≤ n ∧ Hid (D.length = a) ∧ Hid (Ch d D) ∧ Hid (Ch s P') ∧ Hid ((D ++ (P' ++ Q)).Perm L) ∧ Hid (Sb w0 b e N F0 wr (D ++ (P' ++ Q)))) (fun av _ _ => n - (intOf av).toNat)
          case atStart => exact ⟨0, [], P, rfl, by go_num, Nat.zero_le _, Lib.hid rfl, Lib.hid (Ch.nil _), HC, HM, HS⟩
          case round =>
            clear HS HM HC HT
            obtain ⟨a, D, P', rfl, rfl, ha, HDl, HCD, HCP, HM, HS⟩ := hrel
            have HT : Hid (a + (P'.length + Q.length) = n) := Lib.hid (by have := HM.out.length_eq; have := HN.out; have := HDl.out; rw [List.length_append, List.length_append] at *; omega)
            obtain ⟨bd, hbd⟩ : ∃ x : Nat, x = a + d := ⟨_, rfl⟩
            rw [← hbd]
            have HBD := Lib.hid hbd
            have hbb : bd ≤ n + d := by omega
            have hab : a + s < bd := by omega
            clear hbd
            by_cases hlt : bd ≤ n
            · obtain ⟨c1, c2, P2, hP, l1, l2, o1, o2, k2⟩ : ∃ c1 c2 P2, P' = c1 ++ (c2 ++ P2) ∧ c1.length = s ∧ c2.length = s ∧ Sorted c1 ∧ Sorted c2 ∧ Ch s P2 := by
                have q1 := HT.out; have q2 := HL.out; have q3 := HBD.out; have q4 := HD.out
                rcases HCP.out.cases with h | ⟨c1, P1, h, l1, o1, k1⟩
                · subst h; simp only [List.length_nil] at q1; omega
                · rcases k1.cases with h2 | ⟨c2, P2, h2, l2, o2, k2⟩
                  · subst h h2; simp only [List.length_append, List.length_nil] at q1; omega
                  · exact ⟨c1, c2, P2, by rw [h, h2], l1, l2, o1, o2, k2⟩
              have HP3 := Lib.hid hP; have H1 := Lib.hid l1; have H2 := Lib.hid l2; have O1 := Lib.hid o1; have O2 := Lib.hid o2; have K2 := Lib.hid k2
              clear hP l1 l2 o1 o2 k2
              go_wp2_with fail
              refine (symMergeA _ D c1 c2 (P2 ++ Q) (by rw [HP3.out]; simp) O1.out O2.out _ _ _ a (a + s) bd (by first | rfl | go_num) (by first | rfl | go_num) (by first | rfl | go_num) HDl.out.symm (by rw [H1.out]) ?_ ?_ ?_ n cap _ ?_ hc hcap2 HS.out).mono ?_
              · have := H2.out; have := HBD.out; have := HD.out; omega
              · have := H1.out; omega
              · have := H2.out; omega
              · have q1 := HT.out; have := HBD.out; have := HD.out; have := H1.out; have := H2.out; rw [HP3.out] at q1; simp only [List.length_append] at q1 ⊢; omega
              · rintro ee w3 ⟨rfl, S', p1, p2, hs⟩
                have HS3 := Lib.hid hs; have HP1 := Lib.hid p1; have HP2 := Lib.hid p2; clear hs p1 p2
                go_wp2_with fail
                go_roundw
                case rel =>
                  have hl : S'.length = d := by have := HP1.out.length_eq; have := H1.out; have := H2.out; have := HD.out; rw [List.length_append] at *; omega
                  refine ⟨bd, D ++ S', P2, by go_num, by have := HD.out; go_num, hlt, Lib.hid ?_, Lib.hid (HCD.out.snoc hl HP2.out), K2, Lib.hid ?_, Lib.hid (HS3.out.eq (by simp))⟩
                  · have := HDl.out; have := HBD.out; rw [List.length_append]; omega
                  · rw [List.append_assoc]; refine perm_mid ?_ HP1.out; have := HM.out; rw [HP3.out] at this; simpa using this
                case measure => simp [intOf]; have := HBD.out; have := HD.out; omega
            · have hsm : P' = [] ∨ ∃ c1, P' = c1 ∧ c1.length = s ∧ Sorted c1 := by
                have q1 := HT.out; have q3 := HBD.out; have q4 := HD.out
                rcases HCP.out.cases with h | ⟨c1, P1, h, l1, o1, k1⟩
                · exact Or.inl h
                · have := k1.small (by subst h; simp only [List.length_append] at q1; omega)
                  subst this; exact Or.inr ⟨c1, by simpa using h, l1, o1⟩
              obtain ⟨m, hm⟩ : ∃ m : Nat, m = a + s := ⟨_, rfl⟩
              have hm2 : (a : Int) + (s : Int) = (m : Int) := by omega
              have hmb : m ≤ 3 * n := by omega
              have HMM := Lib.hid hm; clear hm
              have HSM := Lib.hid hsm; clear hsm
              by_cases hmn : m < n
              · go_wp2_with fail
                obtain ⟨c1, e1, l1, o1⟩ : ∃ c1, P' = c1 ∧ c1.length = s ∧ Sorted c1 := by
                  rcases HSM.out with h | h
                  · have q1 := HT.out; have := HL.out; have := HMM.out; rw [h] at q1; simp only [List.length_nil] at q1; omega
                  · exact h
                subst e1
                have H1 := Lib.hid l1; have O1 := Lib.hid o1; clear l1 o1
                refine (symMergeA _ D P' Q [] (by simp) O1.out HO.out _ _ _ a m n rfl rfl rfl HDl.out.symm (by rw [H1.out, HMM.out]) ?_ ?_ ?_ n cap _ ?_ hc hcap2 HS.out).mono ?_
                · have := HT.out; have := H1.out; have := HMM.out; omega
                · have := H1.out; omega
                · have := HT.out; have := H1.out; have := HMM.out; omega
                · simp
                · rintro ee w3 ⟨rfl, S', p1, p2, hs⟩
                  have HS3 := Lib.hid hs; have HP1 := Lib.hid p1; have HP2 := Lib.hid p2; clear hs p1 p2
                  go_wp2_with fail
                  go_roundw
                  case rel =>
                    refine ⟨d, D, S', by have := HD.out; go_num, by omega, by omega, Lib.hid ?_, HCD, HP2, Lib.hid ?_, Lib.hid (HS3.out.eq (by simp))⟩
                    · have := HP1.out.length_eq; have := HT.out; have := H1.out; have := HL.out; have := HD.out; rw [List.length_append] at *; omega
                    · exact (List.Perm.append_left D HP1.out).trans HM.out
                  case measure => simp [intOf]; omega
              · go_wp2_with fail
                go_roundw
                case rel =>
                  refine ⟨d, D, P' ++ Q, by have := HD.out; go_num, by omega, by omega, Lib.hid ?_, HCD, Lib.hid ?_, HM, HS⟩
                  · have := HT.out; have := HMM.out; have := HD.out; rw [List.length_append]; omega
                  · rcases HSM.out with h | ⟨c1, e1, l1, o1⟩
                    · rw [h]; exact HO.out
                    · have hq : Q = [] := List.eq_nil_of_length_eq_zero (by have q1 := HT.out; have := HMM.out; rw [e1] at q1; omega)
                      rw [hq, List.append_nil, e1]; exact o1
                case measure => simp [intOf]; omega
        · have HF : Hid (Sorted (P ++ Q)) := by
            refine Lib.hid ?_
            have q1 := HT.out
            rcases HC.out.cases with h | ⟨c1, P1, h, l1, o1, k1⟩
            · rw [h]; exact HO.out
            · have hp1 := k1.small (by subst h; simp only [List.length_append] at q1; omega)
              have hq : Q = [] := List.eq_nil_of_length_eq_zero (by subst h; simp only [List.length_append] at q1; omega)
              rw [hq, h, hp1]; simpa using o1
          go_wp2_with fail
          go_end0
          exact ⟨rfl, _, HM.out, HF.out, HS.out⟩
end Go.Proofs.Ytmajklgjmghjlaa
