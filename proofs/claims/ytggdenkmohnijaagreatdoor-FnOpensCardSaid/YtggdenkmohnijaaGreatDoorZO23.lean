/- Texts of this proof, merged: MrkI, MrkG, RdrA. No condition beyond what each theorem states. -/
import Derived.Test.YtggdenkmohnijaaGreatDoorZO20
set_option linter.unusedSimpArgs false
set_option linter.unnecessarySimpa false
namespace Go.Proofs.YtggdenkmohnijaaGreatDoor
open Go.ChangeShapes Go.WideShapes Go.ChangeAt Go.RowKit Go.Joins
set_option linter.unusedVariables false
set_option maxRecDepth 100000
theorem Rd.mid {w : World} {B cap b o : Nat} {l : List Int} (h : Rd EByte 1 w B (some ⟨b, o, none⟩) cap l) (i m c : Nat) (him : i + m ≤ l.length) (hmc : m ≤ c) (hc : c ≤ maxLen) : Rd EByte 1 w B (some ⟨b, o + i, none⟩) c ((l.drop i).take m) := by
 obtain ⟨F, ⟨h1, h2, h3, h4⟩, hF⟩ := h
 have hlen : ((l.drop i).take m).length = m := by rw [List.length_take, List.length_drop]; omega
 by_cases hm : m = 0
 ·subst hm; rw [List.take_zero]; exact ⟨[], Sl.nil _ _ _ hc, by simp⟩
 obtain ⟨b', o', F', ha, rfl, hr⟩ := h4 (by rintro rfl; simp at him; omega)
 cases ha
 have e1 : l = l.take i ++ l.drop i := (List.take_append_drop i l).symm
 rw [e1] at hr
 obtain ⟨F1, F2, rfl, _, g2⟩ := Row.split hr
 have e2 : l.drop i = (l.drop i).take m ++ (l.drop i).drop m := (List.take_append_drop m (l.drop i)).symm
 rw [e2] at g2
 obtain ⟨G1, G2, rfl, g3, _⟩ := Row.split g2
 rw [List.length_take, Nat.min_eq_left (by omega), Nat.mul_one] at g3
 refine ⟨b :: G1, ⟨by omega, hc, fun hn => by rw [hn] at hlen; simp at hlen; omega, fun _ => ⟨b, o + i, G1, rfl, rfl, g3⟩⟩, fun f hf => hF f ?_⟩
 rcases List.mem_cons.1 hf with rfl | hf
 ·simp
 ·simp [hf]
theorem Rd.u8 {w : World} {B cap : Nat} {a : Option Addr} {l : List Int} (h : Rd EByte 1 w B a cap l) : ∀ x ∈ l, U8 x := by
 intro x hx
 obtain ⟨i, hi, rfl⟩ := List.getElem_of_mem hx
 obtain ⟨b, o, _, _, _, hu⟩ := h.byte i hi
 exact hu
theorem impl_exist (a : Option Addr) (m cap : Nat) (p n : Int) (w : World) (hm : m ≤ 1099511627776) (hn : I64 n) : Calls Tryz.prog 161 #[.slice a m cap, .int .i64 p, .int .i64 n] w fun e w' => e = .returned (.bool (decide ((0 ≤ n ∧ n ≤ m) ∧ (0 ≤ p ∧ p ≤ m - n)))) ∧ Below w.heap.size w w' := by
 by_cases h1 : 0 ≤ n ∧ n ≤ (m : Int)
 ·have D1 := Lib.hid (show decide (0 ≤ n ∧ n ≤ (m : Int)) = true from decide_eq_true h1)
  have HE := Lib.hid (show decide ((0 ≤ n ∧ n ≤ (m : Int)) ∧ (0 ≤ p ∧ p ≤ m - n)) = decide (0 ≤ p ∧ p ≤ (m : Int) - n) from by simp [h1])
  rw [HE.out]
  have hw : wrap64 ((m : Int) - n) = (m : Int) - n := Go.IntWalk.wrap64_in _ ⟨by omega, by omega⟩
  have HW := Lib.hid hw
  obtain ⟨d, hd⟩ : ∃ d, decide (0 ≤ p ∧ p ≤ (m : Int) - n) = d := ⟨_, rfl⟩
  have HD := Lib.hid hd
  rw [hd]
  obtain ⟨h1a, h1b⟩ := h1
  clear hd HE
  go_enter Tryz.func161, Tryz.ntmps161
  go_wp2_with (go_at_call 125; refine (impl_withinE _ _ _ _).mono ?_; rintro ee w2 ⟨rfl, rfl⟩; first | rw [D1.out] | rw [HD.out])
  go_ret
  exact ⟨rfl, Below.refl _ _⟩
 ·have D1 := Lib.hid (show decide (0 ≤ n ∧ n ≤ (m : Int)) = false from decide_eq_false h1)
  have HE := Lib.hid (show decide ((0 ≤ n ∧ n ≤ (m : Int)) ∧ (0 ≤ p ∧ p ≤ m - n)) = false from decide_eq_false (fun h => h1 h.1))
  rw [HE.out]
  clear HE h1
  go_enter Tryz.func161, Tryz.ntmps161
  go_wp2_with (go_at_call 125; refine (impl_withinE _ _ _ _).mono ?_; rintro ee w2 ⟨rfl, rfl⟩; rw [D1.out])
  go_ret
  exact ⟨rfl, Below.refl _ _⟩
theorem or_u64 (n x : Int) (h0 : 0 ≤ n) (hn : n < 72057594037927936) (hx0 : 0 ≤ x) (hx : x ≤ 255) : bits .or .u64 (n * 256) x = n * 256 + x := by
 obtain ⟨u, rfl⟩ : ∃ u : Nat, n = u := ⟨n.toNat, by omega⟩
 obtain ⟨v, rfl⟩ : ∃ v : Nat, x = v := ⟨x.toNat, by omega⟩
 have hv : v < 2 ^ 8 := by omega
 show IntKind.u64.wrap ((BitVec.ofInt 64 ((u : Int) * 256) ||| BitVec.ofInt 64 (v : Int)).toNat : Int) = _
 have e1 : (BitVec.ofInt 64 ((u : Int) * 256)).toNat = u * 2 ^ 8 := by rw [BitVec.toNat_ofInt]; omega
 have e2 : (BitVec.ofInt 64 (v : Int)).toNat = v := by rw [BitVec.toNat_ofInt]; omega
 rw [BitVec.toNat_or, e1, e2, Nat.mul_comm, ← Nat.two_pow_add_eq_or_of_lt hv]
 simp [IntKind.wrap, IntKind.bits, IntKind.signed]; omega
def Pr (w : World) (A : Nat) (a : Option Addr) (cap : Nat) (bs : List Int) (p c : Int) : Prop := Is w A 85 #[.slice a bs.length cap, .int .i64 p, .int .i64 c] ∧ Rd EByte 1 w A a cap bs
theorem Pr.below {w w' : World} {A n : Nat} {a : Option Addr} {cap : Nat} {bs : List Int} {p c : Int} (h : Pr w A a cap bs p c) (hb : Below n w w') (hn : A < n) : Pr w' A a cap bs p c := ⟨h.1.below hb hn, h.2.below EByte.loc hb (Nat.le_of_lt hn)⟩
theorem Pr.lt {w : World} {A : Nat} {a : Option Addr} {cap : Nat} {bs : List Int} {p c : Int} (h : Pr w A a cap bs p c) : A < w.heap.size := h.1.lt
theorem Pr.at {w : World} {A : Nat} {a : Option Addr} {cap : Nat} {bs : List Int} {p c : Int} (h : Pr w A a cap bs p c) (q : Int) : Pr (w.setCell ⟨A, 1, none⟩ (.int .i64 q)) A a cap bs q c :=
 ⟨h.1.set 1 _, h.2.below EByte.loc ((Below.refl A w).setCell (p := ⟨A, 1, none⟩) (Nat.le_refl _) _) (Nat.le_refl _)⟩
theorem Pr.code {w : World} {A : Nat} {a : Option Addr} {cap : Nat} {bs : List Int} {p c : Int} (h : Pr w A a cap bs p c) (q : Int) : Pr (w.setCell ⟨A, 2, none⟩ (.int .i64 q)) A a cap bs p q :=
 ⟨h.1.set 2 _, h.2.below EByte.loc ((Below.refl A w).setCell (p := ⟨A, 2, none⟩) (Nat.le_refl _) _) (Nat.le_refl _)⟩
theorem Pr.miss {w : World} {A : Nat} {a : Option Addr} {cap : Nat} {bs : List Int} {p c : Int} (h : Pr w A a cap bs p c) (g i : Nat) (hg : A < g) (v : Value) : Pr (w.setCell ⟨g, i, none⟩ v) A a cap bs p c :=
 h.below ((Below.refl g w).setCell (p := ⟨g, i, none⟩) (Nat.le_refl _) _) hg
theorem wfK2 {n x : Int} (h1 : I64 n) (h2 : I64 x) : Wf (.mk 4 n x ⟨#[]⟩ []) := ⟨by show I64 4; exact ⟨by decide, by decide⟩, h1, h2, by show (⟨#[]⟩ : ByteArray).size ≤ maxLen; exact Nat.zero_le _⟩
theorem conv_rd (w : World) (B : Nat) (b o cap : Nat) (l : List Int) (h : Rd EByte 1 w B (some ⟨b, o, none⟩) cap l) : (convert 22 9 (.slice (some ⟨b, o, none⟩) l.length cap)).run Tryz.prog w = .ok (.string (strOfNums l)) w :=
 run_convert_bytes_arg w 22 5 Tryz.underlying22 Tryz.underlying5 b o l.length cap l rfl (fun i hi => by
  obtain ⟨b', o', hae, _, hc, _⟩ := h.byte i hi
  cases hae
  rw [hc, List.getD_eq_getElem?_getD, List.getElem?_eq_getElem hi]; rfl) 9 Tryz.underlying9
end Go.Proofs.YtggdenkmohnijaaGreatDoor
