/- Texts of this proof, merged: NamesT, DecF, DecF2. No condition beyond what each theorem states. -/
import Derived.Test.YtpifadjlbjifhaaGreatDoorRows
import Derived.WalkKit
import Derived.ProofKit
import Derived.OpenShut
import Derived.Handy
import Derived.Lib.Hide
import Derived.Lib.SmallJoins
import Derived.Deep.RegionHeld3
import Derived.Deep.AppendLies
import Derived.Deep.QuietTactic
import Derived.BigQuiet
import Derived.Test.YtpifadjlbjifhaaGreatDoorZF1
import Derived.Test.YtpifadjlbjifhaaGreatDoorZF2
import Derived.Test.YtpifadjlbjifhaaGreatDoorZF3
import Derived.Test.YtpifadjlbjifhaaGreatDoorZF4
import Derived.Laws.BytesArg
import Derived.Lib.ItoaNum
import Derived.Lib.ItoaLen
import Derived.Lib.AppendIntMem
import Derived.Test.YtpifadjlbjifhaaGreatDoorShelf
import Derived.Test.YtpifadjlbjifhaaGreatDoorZF5
set_option linter.unusedSimpArgs false
set_option linter.unnecessarySimpa false
namespace Go.Proofs.YtpifadjlbjifhaaGreatDoor
open Go.ChangeShapes Go.WideShapes Go.ChangeAt Go.RowKit Go.Joins
set_option linter.unusedVariables false
set_option maxRecDepth 100000
/-! ### The names of a map -/
def evN (l : List T) : Nat → List T
  | 0 => []
  | p + 1 => evN l p ++ [l.getD (2 * p) zT]
def namesT (t : T) : List T := if t.k = 10 then evN t.l ((t.l.length + 1) / 2) else []
theorem evN_len (l : List T) (p : Nat) : (evN l p).length = p := by
  induction p with
  | zero => rfl
  | succ p ih => simp [evN, ih]
theorem evN_succ (l : List T) (p i : Nat) (hi : i = 2 * p) (h : i < l.length) : evN l (p + 1) = evN l p ++ [l[i]] := by
  subst hi
  rw [evN, List.getD_eq_getElem?_getD, List.getElem?_eq_getElem h, Option.getD_some]
theorem evN_mem (l : List T) (p : Nat) (hp : 2 * p ≤ l.length + 1) : ∀ x ∈ evN l p, x ∈ l := by
  induction p with
  | zero => intro x hx; simp [evN] at hx
  | succ p ih =>
    intro x hx
    rw [evN_succ l p (2 * p) rfl (by omega)] at hx
    rcases List.mem_append.1 hx with h | h
    · exact ih (by omega) x h
    · rw [List.mem_singleton] at h; subst h; exact List.getElem_mem _
def onceN (ns : List T) : Nat → Bool
  | 0 => true
  | j + 1 => onceN ns j && !((ns.take j).any fun o => sameT o (ns.getD j zT))
def onceB (t : T) : Bool := onceN (namesT t) (namesT t).length
theorem onceN_succ (ns : List T) (j : Nat) (h : j < ns.length) : onceN ns (j + 1) = (onceN ns j && !((ns.take j).any fun o => sameT o ns[j])) := by
  rw [onceN, List.getD_eq_getElem?_getD, List.getElem?_eq_getElem h, Option.getD_some]
theorem onceN_false (ns : List T) (j n : Nat) (hj : j ≤ n) (h : onceN ns j = false) : onceN ns n = false := by
  induction n with
  | zero => obtain rfl : j = 0 := by omega
            exact h
  | succ n ih =>
    rcases Nat.lt_or_ge n j with hn | hn
    · obtain rfl : j = n + 1 := by omega
      exact h
    · rw [onceN, ih hn]; rfl
def textNm (t : T) : Bool := onceB t && (namesT t).all fun x => decide (x.k = 7)
theorem Row.take {α : Type} {E : World → Nat → Nat → α → List Nat → Prop} {n : Nat} {w : World} {b : Nat} : ∀ (l : List α) {o : Nat} {F : List Nat} (i : Nat), Row E n w b o l F → ∃ G, Row E n w b o (l.take i) G ∧ ∀ f ∈ G, f ∈ F := by
  intro l
  induction l with
  | nil => intro o F i h; exact ⟨[], by simp [Row], by simp⟩
  | cons t r ih =>
    intro o F i h
    cases i with
    | zero => exact ⟨[], by simp [Row], by simp⟩
    | succ i =>
      obtain ⟨F1, F2, rfl, h1, h2⟩ := h
      obtain ⟨G, h3, h4⟩ := ih i h2
      exact ⟨F1 ++ G, ⟨F1, G, rfl, h1, h3⟩, fun f hf => by rcases List.mem_append.1 hf with h | h; simp [h]; simp [h4 f h]⟩
theorem Rd.take {α : Type} {E : World → Nat → Nat → α → List Nat → Prop} {n : Nat} {w : World} {B : Nat} {a : Option Addr} {cap : Nat} {l : List α} (h : Rd E n w B a cap l) (i : Nat) : Rd E n w B a cap (l.take i) := by
  obtain ⟨F, ⟨h1, h2, h3, h4⟩, hF⟩ := h
  by_cases hl : l.take i = []
  · rw [hl]; exact ⟨[], Sl.nil _ _ _ h2, by simp⟩
  · obtain ⟨b, o, F', ha, rfl, hr⟩ := h4 (by rintro rfl; simp at hl)
    obtain ⟨G, hg, hm⟩ := Row.take l i hr
    exact ⟨b :: G, ⟨by rw [List.length_take]; omega, h2, fun h => absurd h hl, fun _ => ⟨b, o, G, ha, rfl, hg⟩⟩, fun f hf => by
      rcases List.mem_cons.1 hf with rfl | hf
      · exact hF f (by simp)
      · exact hF f (by simp [hm f hf])⟩
theorem R.take {w : World} {B : Nat} {a : Option Addr} {cap : Nat} {l : List T} (h : R w B a cap l) (i : Nat) : R w B a cap (l.take i) := R.rd.2 ((R.rd.1 h).take i)
theorem AppL.read {α : Type} {E : World → Nat → Nat → α → List Nat → Prop} {n : Nat} {e : TypeId} {w : World} {rlo cap : Nat} {a : Option Addr} {l : List α} {F : List Nat} (h : AppL E n e w rlo a cap l F) (hlo : rlo ≤ w.heap.size) : Rd E n w w.heap.size a cap l := by
  rcases h with ⟨rfl, rfl, rfl, rfl⟩ | ⟨g, cur, rfl, h1, h3, h4, h5, h6, h7, h8⟩
  · exact Rd.nil _ _
  · have hg : g < w.heap.size := (Array.getElem?_eq_some_iff.1 h3).1
    by_cases hl : l = []
    · subst hl; exact ⟨[], Sl.nil _ _ _ h5, by simp⟩
    · exact ⟨g :: F, ⟨h4, h5, fun h => absurd h hl, fun _ => ⟨g, 0, F, rfl, rfl, h7⟩⟩, fun f hf => by
        rcases List.mem_cons.1 hf with rfl | hf
        · exact hg
        · have := h8 f hf; omega⟩
set_option maxHeartbeats 2000000 in
theorem impl_names (t : T) (a : Option Addr) (cap B : Nat) (w : World) (hr : R w B a cap t.l) (hB : B ≤ w.heap.size) (hlc : t.l.length ≤ 1073741824) :
    Calls Tryz.prog 135 #[.agg (cV t a cap)] w fun e w' => ∃ a' cap', e = .returned (.slice a' (namesT t).length cap') ∧ R w' w'.heap.size a' cap' (namesT t) ∧ Below w.heap.size w w' := by
  obtain ⟨k, n, x, s, l⟩ := t
  simp only [cV, T.k, T.n, T.x, T.s, T.l] at *
  obtain ⟨hl1, hl2⟩ := hr.len
  by_cases hk : k = 10
  · subst hk
    have HNm := Lib.hid (show namesT (.mk 10 n x s l) = evN l ((l.length + 1) / 2) from if_pos rfl)
    have HR := Lib.hid hr; clear hr
    obtain ⟨rlo, hrlo⟩ : ∃ r, r = w.heap.size + 1 := ⟨_, rfl⟩
    have h0 := AppL.empty (E := TV) (n := 5) (e := 36) (w.alloc (Obj.cells #[Value.int IntKind.i64 10, Value.int IntKind.i64 n, Value.int IntKind.i64 x, Value.string s, Value.slice a l.length cap] 36)) rlo (by rw [hrlo]; simp)
    simp only [size_alloc] at h0
    go_enter Tryz.func135, Tryz.ntmps135
    go_wp2_with fail
    generalize hW : (w.alloc (Obj.cells #[Value.int IntKind.i64 10, Value.int IntKind.i64 n, Value.int IntKind.i64 x, Value.string s, Value.slice a l.length cap] 36)).alloc (Obj.cells #[] 36) = W0 at *
    have q1 : Is W0 w.heap.size 36 #[Value.int IntKind.i64 10, Value.int IntKind.i64 n, Value.int IntKind.i64 x, Value.string s, Value.slice a l.length cap] := by subst hW; exact (Is.new _ _ _).alloc _
    have H0 := Lib.hid (show Below w.heap.size w W0 from by subst hW; exact below2 _ _ _)
    have hs0 : W0.heap.size = w.heap.size + 2 := by subst hW; simp
    clear hW
    have lr : w.heap.size < rlo := by omega
    have hrl3 : rlo ≤ W0.heap.size := by omega
    have hBr : B ≤ rlo := by omega
    have hwr : w.heap.size ≤ rlo := by omega
    clear hrlo
    go_loopw [3, 4] (fun q iv wr => ∃ (i p : Nat) (ar : Option Addr) (cr : Nat) (F : List Nat), i ≤ l.length + 1 ∧ iv = .int .i64 i ∧ Hid (i = 2 * p) ∧ q = .slice ar (evN l p).length cr ∧ AppL TV 5 36 wr rlo ar cr (evN l p) F ∧ Below rlo W0 wr) (fun _ iv _ => l.length + 2 - (intOf iv).toNat)
    case atStart => exact ⟨0, 0, _, _, [], by omega, rfl, rfl, rfl, h0, Below.refl _ _⟩
    case round =>
      obtain ⟨i, p, ar, cr, F, hi', rfl, HI, rfl, happ, hb⟩ := hrel
      have hbs := hb.size
      have hbox := q1.below hb lr
      obtain ⟨x0, x1, x2, x3, x4⟩ := hbox.cells5
      have lbox : w.heap.size < wr.heap.size := by omega
      have HBw := Lib.hid (H0.out.trans (hb.mono hwr))
      have hlen := evN_len l p
      have HA := Lib.hid happ; clear happ
      by_cases hlt : i < l.length
      · obtain ⟨b, o, a2, cap2, ha, hbl, d0, d1, d2, d3, d4, hwf, hq⟩ := (HR.out.below HBw.out hB).get i hlt
        obtain ⟨b', o', G, ha', hbl', hv, hG⟩ := (R.rd.1 (HR.out.below HBw.out hB)).get i hlt
        have e2 := ha.symm.trans ha'
        injection e2 with e2; injection e2 with e2 e3
        subst e2 e3 ha
        clear ha'
        have hlb : b < wr.heap.size := by omega
        have HS := Lib.hid (evN_succ l p i HI.out hlt)
        have hip : p ≤ 1073741824 := by have := HI.out; omega
        rw [← T.eta l[i], TV.iff] at hv
        obtain ⟨t0, t1, t2, t3, _, _, _, _, a3, cap3, t4, htl⟩ := hv
        have e4 := d4.symm.trans t4
        injection e4 with e4; injection e4 with e4 e5 e6
        subst e4 e6
        clear t0 t1 t2 t3 t4 e5
        have HTV := Lib.hid (TV.box 36 htl hwf (fun f hf => by have := hG f hf; omega))
        have HG := Lib.hid (show ∀ f ∈ G, f < rlo from fun f hf => by have := hG f hf; omega)
        have HN := Lib.hid (HA.out.agree TV.elem (fun f hf => (below1 wr (.cells (cV l[i] a2 cap2) 36)).block f hf) (by omega))
        clear htl hwf hq hG
        go_wp2_with (at_builtin; refine wpList_appL TV.elem rfl _ _ 34 rfl (.agg zV) 64 Tryz.underlying34 info_Val rfl rlo ar cr (evN l p) F (by first | rfl | (rw [hlen]; rfl)) HN.out (by simp; omega) wr.heap.size 0 1 1 [l[i]] G rfl rfl ⟨G, [], by simp, HTV.out, rfl⟩ HG.out (by omega) (by rw [hlen]; unfold maxLen; omega) (by rw [hlen]; omega) ?_; intro ar2 cr2 w3 happ3 hb3)
        go_roundw
        case rel => exact ⟨i + 2, p + 1, ar2, cr2, F ++ G, by omega, by go_num, by have := HI.out; show _ = _; omega, by rw [HS.out, List.length_append, hlen]; rfl, by rw [HS.out]; exact happ3, (hb.trans ((below1 wr _).mono (by omega))).trans hb3⟩
        case measure => simp [intOf]; omega
      · have hp : p = (l.length + 1) / 2 := by have := HI.out; omega
        have HP := Lib.hid hp; clear hp
        go_wp2_with fail
        go_ret
        refine ⟨ar, cr, by rw [HNm.out, ← HP.out]; rfl, by rw [HNm.out, ← HP.out]; exact R.rd.2 (HA.out.read (by omega)), HBw.out⟩
  · have HNm := Lib.hid (show namesT (.mk k n x s l) = [] from if_neg hk)
    have hk2 : (k == 10) = false := by simpa using hk
    have hk3 : (k != 10) = true := by simpa using hk
    go_enter Tryz.func135, Tryz.ntmps135
    go_wp2_with fail
    go_ret
    exact ⟨_, _, by rw [HNm.out]; rfl, by rw [HNm.out]; exact R.rd.2 ⟨[], Sl.nil _ _ _ (by unfold maxLen; omega), by simp⟩, below2 _ _ _⟩
end Go.Proofs.YtpifadjlbjifhaaGreatDoor
namespace Go.Proofs.YtpifadjlbjifhaaGreatDoor
open Go.ChangeShapes Go.WideShapes Go.ChangeAt Go.RowKit Go.Joins
set_option linter.unusedVariables false
set_option maxRecDepth 100000
theorem pow_mono {b j k : Nat} (hb : 1 ≤ b) (h : j ≤ k) : b ^ j ≤ b ^ k := Nat.pow_le_pow_right hb h
theorem pow_step {b j k : Nat} (hb : 1 ≤ b) (h : j < k) (hk : b ^ k ≤ 9223372036854775807) : (b ^ j : Nat) * b ≤ 9223372036854775807 := by
  rw [← Nat.pow_succ]; exact Nat.le_trans (pow_mono hb h) hk
theorem pow_int (b j : Nat) : (((b ^ j : Nat) : Int) * (b : Int)) = ((b ^ (j + 1) : Nat) : Int) := by
  rw [Nat.pow_succ]; exact (Int.natCast_mul _ _).symm
theorem impl_power (b k : Nat) (w : World) (hb : 1 ≤ b) (hb2 : b ≤ 100) (hk2 : k ≤ 100) (hk : b ^ k ≤ 9223372036854775807) :
    Calls Tryz.prog 120 #[.int .i64 b, .int .i64 k] w fun e w' => e = .returned (.int .i64 (b ^ k : Nat)) ∧ Below w.heap.size w w' := by
  go_enter Tryz.func120, Tryz.ntmps120
  go_wp2_with fail
  go_loopw [5, 7] (fun o i wr => ∃ (j p : Nat), j ≤ k ∧ i = .int .i64 j ∧ o = .int .i64 p ∧ Hid (p = b ^ j) ∧ Below w.heap.size w wr) (fun _ i _ => k - (intOf i).toNat)
  case atStart => exact ⟨0, 1, Nat.zero_le _, rfl, rfl, (Nat.pow_zero _).symm, Below.refl _ _⟩
  case round =>
    obtain ⟨j, p, hj, rfl, rfl, HP, hb'⟩ := hrel
    by_cases hlt : j < k
    · have h1 := pow_step hb hlt hk
      rw [← HP.out] at h1
      have h2 : (p : Int) * (b : Int) ≤ 9223372036854775807 := by rw [← Int.natCast_mul]; omega
      have h3 : (0 : Int) ≤ (p : Int) * (b : Int) := by rw [← Int.natCast_mul]; omega
      have HE := Lib.hid (show (p : Int) * (b : Int) = ((p * b : Nat) : Int) from (Int.natCast_mul p b).symm)
      have HQ := Lib.hid (show p * b = b ^ (j + 1) from by rw [Nat.pow_succ, HP.out])
      clear h1
      go_wp2_with fail
      go_roundw
      case rel => exact ⟨j + 1, p * b, by omega, by go_num, by first | go_num | (rw [HE.out]), HQ.out, hb'⟩
      case measure => simp [intOf]; omega
    · have HE := Lib.hid (show p = b ^ k from by rw [HP.out, show j = k from by omega])
      go_wp2_with fail
      go_ret
      exact ⟨by rw [← HE.out]; rfl, hb'⟩
theorem spec_Pow (b k : Nat) (w : World) (hb : b = 2 ∨ b = 5 ∨ b = 10) (hk2 : k ≤ 17) :
    Calls Tryz.prog 127 #[.int .i64 b, .int .i64 k] w fun e w' => e = .returned (.int .i64 (b ^ k : Nat)) ∧ Below w.heap.size w w' := by
  have hb1 : 1 ≤ b := by omega
  have hk : b ^ k ≤ 9223372036854775807 := by
    have h1 : b ^ k ≤ 10 ^ k := Nat.pow_le_pow_left (by omega) k
    have h2 : 10 ^ k ≤ 10 ^ 17 := Nat.pow_le_pow_right (by omega) hk2
    have h3 : (10 : Nat) ^ 17 = 100000000000000000 := by decide
    omega
  have HD := Lib.hid (show decide ((0 : Int) ≤ (k : Int) ∧ (k : Int) ≤ 17) = true from decide_eq_true ⟨by omega, by omega⟩)
  have HKK := Lib.hid hk; clear hk
  obtain ⟨P, hP⟩ : ∃ P, b ^ k = P := ⟨_, rfl⟩
  have HPP := Lib.hid hP; rw [hP]; clear hP
  obtain rfl | rfl | rfl := hb
  all_goals
    go_enter Tryz.func127, Tryz.ntmps127
    go_wp2_with (go_at_call 71; refine (spec_l1In _ _ _ _).mono ?_; rintro e w2 ⟨rfl, hb2⟩; rw [HD.out]; have HB2 := Lib.hid hb2)
    go_loopw [5, 6] (fun o i wr => ∃ (j p : Nat), j ≤ k ∧ i = .int .i64 j ∧ o = .int .i64 p ∧ Hid (p = _ ^ j) ∧ Below w.heap.size w wr) (fun _ i _ => k - (intOf i).toNat)
    case atStart => exact ⟨0, 1, Nat.zero_le _, rfl, rfl, by show _ = _; exact (Nat.pow_zero _).symm, HB2.out⟩
    case round =>
      obtain ⟨j, p, hj, rfl, rfl, HP, hb'⟩ := hrel
      by_cases hlt : j < k
      · have h1 := pow_step hb1 hlt HKK.out
        rw [← HP.out] at h1
        have HQ := Lib.hid (show p * _ = _ ^ (j + 1) from by rw [Nat.pow_succ, ← HP.out])
        go_wp2_with fail
        go_roundw
        case rel => exact ⟨j + 1, _, by omega, by go_num, by go_num, HQ.out, hb'⟩
        case measure => simp [intOf]; omega
      · have HE := Lib.hid (show p = P from by rw [HP.out, ← HPP.out, show j = k from by omega])
        go_wp2_with fail
        go_ret
        exact ⟨by rw [← HE.out]; rfl, hb'⟩
theorem spec_Pow5 (k : Nat) (kk : Int) (w : World) (h : kk = k) (hk2 : k ≤ 16) :
    Calls Tryz.prog 127 #[.int .i64 5, .int .i64 kk] w fun e w' => e = .returned (.int .i64 (5 ^ k : Nat)) ∧ Below w.heap.size w w' := by
  subst h; exact spec_Pow 5 k w (by omega) (by omega)
theorem impl_power5 (k : Nat) (kk : Int) (w : World) (h : kk = k) (hk2 : k ≤ 16) :
    Calls Tryz.prog 120 #[.int .i64 5, .int .i64 kk] w fun e w' => e = .returned (.int .i64 (5 ^ k : Nat)) ∧ Below w.heap.size w w' := by
  subst h; exact impl_power 5 k w (by omega) (by omega) (by omega) (by
    have h1 : 5 ^ k ≤ 5 ^ 16 := Nat.pow_le_pow_right (by omega) hk2
    have h2 : (5 : Nat) ^ 16 = 152587890625 := by decide
    omega)
end Go.Proofs.YtpifadjlbjifhaaGreatDoor
namespace Go.Proofs.YtpifadjlbjifhaaGreatDoor
open Go.ChangeShapes Go.WideShapes Go.ChangeAt Go.RowKit Go.Joins
set_option linter.unusedVariables false
set_option maxRecDepth 100000
/-- The number and the power of ten that stay when zeros at the end are taken off, while the power is below 0. -/
def stripD : Nat → Int → Int × Nat
  | 0, n => (n, 0)
  | m + 1, n => if n.tmod 10 = 0 then stripD m (n.tdiv 10) else (n, m + 1)
theorem stripD_zero (n : Int) : stripD 0 n = (n, 0) := rfl
theorem stripD_no (m : Nat) (n : Int) (h : n.tmod 10 ≠ 0) : stripD m n = (n, m) := by
  cases m with
  | zero => rfl
  | succ m => rw [stripD, if_neg h]
theorem stripD_yes (m : Nat) (n : Int) (hm : 0 < m) (h : n.tmod 10 = 0) : stripD m n = stripD (m - 1) (n.tdiv 10) := by
  cases m with
  | zero => omega
  | succ m => rw [stripD, if_pos h]; rfl
theorem stripD_le (m : Nat) : ∀ n : Int, (stripD m n).2 ≤ m := by
  induction m with
  | zero => intro n; simp [stripD]
  | succ m ih =>
    intro n
    rw [stripD]
    split
    · have := ih (n.tdiv 10); omega
    · simp
/-- The decimal number of n and 10 to the -m. -/
def decNewD (n : Int) (m : Nat) : (Int × Int) × Bool :=
  if 17 < digN n then ((0, 0), false)
  else if n = 0 then ((0, 0), true)
  else if decOk (stripD m n).1 (-((stripD m n).2 : Int)) then (((stripD m n).1, -((stripD m n).2 : Int)), true) else ((0, 0), false)
theorem Is.cells2b {w : World} {g : Nat} {e : TypeId} {v0 v1 : Value} (h : Is w g e #[v0, v1]) : w.cell? ⟨g, 0, none⟩ = some v0 ∧ w.cell? ⟨g, 1, none⟩ = some v1 := ⟨h.cell 0 rfl, h.cell 1 rfl⟩
theorem dec_ret {P : Program} {fn : Func} {g : Nat} {e : TypeId} : True := trivial
set_option maxHeartbeats 4000000 in
theorem spec_DecNew (n : Int) (m : Nat) (w : World) (hn : I64 n) (hm : m ≤ 40) :
    Calls Tryz.prog 126 #[.int .i64 n, .int .i64 (-(m : Int))] w fun e w' => e = .returned (.tuple #[.agg (cF (decNewD n m).1.1 (decNewD n m).1.2), .bool (decNewD n m).2]) ∧ Below w.heap.size w w' := by
  have HN := Lib.hid hn
  obtain ⟨hn0, hn1⟩ := hn
  have hdl := digN_le n ⟨hn0, hn1⟩
  have q0 := Is.new w (cF 0 0) 91
  have D40 := Lib.hid (show decide ((-40 : Int) ≤ (-(m : Int)) ∧ (-(m : Int)) ≤ 40) = true from decide_eq_true ⟨by omega, by omega⟩)
  have lg : w.heap.size < (w.alloc (.cells (cF 0 0) 91)).heap.size := by simp
  by_cases h17 : 17 < digN n
  · have HD := Lib.hid (show decNewD n m = ((0, 0), false) from if_pos h17)
    go_enter Tryz.func126, Tryz.ntmps126
    go_wp2_with (go_at_call 165; refine (spec_Digits _ _ HN.out).mono ?_; rintro e w2 ⟨rfl, hb⟩; have p2 := q0.below hb lg; obtain ⟨z0, z1⟩ := p2.cells2b; have ff := fun i => p2.frozen i; have hl2 : w.heap.size < w2.heap.size := Nat.lt_of_lt_of_le lg hb.size; have HB2 := Lib.hid (below_step (below1 w _) hb (by simp)))
    obtain ⟨e0, e1⟩ := ((p2.set 0 (.int .i64 (0))).set 1 (.int .i64 (0))).cells2b
    refine bodyPost_ret (v := .tuple #[.agg #[.int .i64 (0), .int .i64 (0)], .bool false]) (by simp [results, Tryz.results126, go_sem, e0, e1]) rfl ⟨by rw [HD.out], HB2.out.trans ((below2s _ _ _ _).mono (Nat.le_refl _))⟩
  by_cases h0 : n = 0
  · have HD := Lib.hid (show decNewD n m = ((0, 0), true) from (if_neg h17).trans (if_pos h0))
    subst h0
    go_enter Tryz.func126, Tryz.ntmps126
    go_wp2_with (first | (go_at_call 165; refine (spec_Digits _ _ HN.out).mono ?_; rintro e w2 ⟨rfl, hb⟩; have p2 := q0.below hb lg; have hl2 : w.heap.size < w2.heap.size := Nat.lt_of_lt_of_le lg hb.size; have HB2 := Lib.hid (below_step (below1 w _) hb (by simp)); clear hb) | (go_at_call 71; refine (spec_l1In _ _ _ _).mono ?_; rintro e w3 ⟨rfl, hb⟩; rw [D40.out]; have p3 := p2.below hb hl2; obtain ⟨z0, z1⟩ := p3.cells2b; have ff := fun i => p3.frozen i; have hl3 : w.heap.size < w3.heap.size := Nat.lt_of_lt_of_le hl2 hb.size; have HB3 := Lib.hid (HB2.out.trans (hb.mono HB2.out.size)); clear hb))
    obtain ⟨e0, e1⟩ := ((p3.set 0 (.int .i64 (0))).set 1 (.int .i64 (0))).cells2b
    refine bodyPost_ret (v := .tuple #[.agg #[.int .i64 (0), .int .i64 (0)], .bool true]) (by simp [results, Tryz.results126, go_sem, e0, e1]) rfl ⟨by rw [HD.out], HB3.out.trans ((below2s _ _ _ _).mono (Nat.le_refl _))⟩
  have HX := Lib.hid (show decNewD n m = if decOk (stripD m n).1 (-((stripD m n).2 : Int)) then (((stripD m n).1, -((stripD m n).2 : Int)), true) else ((0, 0), false) from (if_neg h17).trans (if_neg h0))
  have h0' : (n == 0) = false := by simpa using h0
  go_enter Tryz.func126, Tryz.ntmps126
  go_wp2_with (first | (go_at_call 165; refine (spec_Digits _ _ HN.out).mono ?_; rintro e w2 ⟨rfl, hb⟩; have p2 := q0.below hb lg; have hl2 : w.heap.size < w2.heap.size := Nat.lt_of_lt_of_le lg hb.size; have HB2 := Lib.hid (below_step (below1 w _) hb (by simp)); clear hb) | (go_at_call 71; refine (spec_l1In _ _ _ _).mono ?_; rintro e w3 ⟨rfl, hb⟩; rw [D40.out]; have p3 := p2.below hb hl2; have hl3 : w.heap.size < w3.heap.size := Nat.lt_of_lt_of_le hl2 hb.size; have HB3 := Lib.hid (HB2.out.trans (hb.mono HB2.out.size)); clear hb))
  go_loopw [0, 1] (fun nv xv wr => ∃ (n2 : Int) (m2 : Nat), nv = .int .i64 n2 ∧ xv = .int .i64 (-(m2 : Int)) ∧ -9223372036854775808 ≤ n2 ∧ n2 ≤ 9223372036854775807 ∧ m2 ≤ 40 ∧ Hid (stripD m n = stripD m2 n2) ∧ Below w3.heap.size w3 wr) (fun _ xv _ => (-(intOf xv)).toNat)
  case atStart => exact ⟨n, m, rfl, rfl, hn0, hn1, hm, rfl, Below.refl _ _⟩
  case round =>
    obtain ⟨n2, m2, rfl, rfl, hn2a, hn2b, hm2, HS, hb⟩ := hrel
    have hbs := hb.size
    by_cases hgo : n2.tmod 10 = 0 ∧ 0 < m2
    · obtain ⟨hg1, hg2⟩ := hgo
      have HE := Lib.hid (show stripD m n = stripD (m2 - 1) (n2.tdiv 10) from HS.out.trans (stripD_yes m2 n2 hg2 hg1))
      have ht := tdiv_abs n2
      have hg1' : (n2.tmod 10 == 0) = true := by simp [hg1]
      have hxl : -(m2 : Int) < 0 := by omega
      go_wp2_with fail
      go_roundw
      case rel => exact ⟨n2.tdiv 10, m2 - 1, by first | rfl | go_num, by go_num, by omega, by omega, by omega, HE.out, hb⟩
      case measure => simp only [intOf]; first | omega | (simp; omega)
    · have HE := Lib.hid (show stripD m n = (n2, m2) from HS.out.trans (by
        by_cases hz : m2 = 0
        · rw [hz, stripD_zero]
        · exact stripD_no _ _ (fun h => hgo ⟨h, by omega⟩)))
      have hmm : ¬ (-(m2 : Int) > 0) := by omega
      have HXX := Lib.hid (show decNewD n m = if decOk n2 (-(m2 : Int)) then ((n2, -(m2 : Int)), true) else ((0, 0), false) from by rw [HX.out, HE.out])
      have p4 := p3.below hb hl3
      have HB4 := Lib.hid (HB3.out.trans (hb.mono HB3.out.size))
      have hl4 : w.heap.size < wr.heap.size := by omega
      rename World => w4
      have hstop : ((n2.tmod 10 == 0) = false ∧ -(m2 : Int) < 0) ∨ ((n2.tmod 10 == 0) = false ∧ ¬ (-(m2 : Int) < 0)) ∨ ((n2.tmod 10 == 0) = true ∧ ¬ (-(m2 : Int) < 0)) := by
        by_cases hz : n2.tmod 10 = 0
        · right; right; exact ⟨by simp [hz], fun h => hgo ⟨hz, by omega⟩⟩
        · by_cases hy : -(m2 : Int) < 0
          · left; exact ⟨by simp [hz], hy⟩
          · right; left; exact ⟨by simp [hz], hy⟩
      clear HX HE HS hgo
      rcases hstop with ⟨hst, hst2⟩ | ⟨hst, hst2⟩ | ⟨hst, hst2⟩
      all_goals
        go_wp2_with fail
        go_loopw [0, 1] (fun nv xv wr => nv = .int .i64 n2 ∧ xv = .int .i64 (-(m2 : Int)) ∧ Below w4.heap.size w4 wr) (fun _ _ _ => 0)
        case atStart => exact ⟨rfl, rfl, Below.refl _ _⟩
        case round =>
          obtain ⟨rfl, rfl, hb5⟩ := hrel
          have hbs5 := hb5.size
          have p5 := p4.below hb5 hl4
          have HB5 := Lib.hid (HB4.out.trans (hb5.mono HB4.out.size))
          have hl5 : w.heap.size < wr.heap.size := by omega
          go_wp2_with fail
          have q6 := Is.new wr (cF n2 (-(m2 : Int))) 91
          have p6 := p5.alloc (.cells (cF n2 (-(m2 : Int))) 91)
          refine (spec_DecOk n2 (-(m2 : Int)) _ ⟨hn2a, hn2b⟩ ⟨by omega, by omega⟩).mono ?_
          rintro e w6 ⟨rfl, hb6⟩
          have q7 := q6.below hb6 (by simp)
          have p7 := p6.below hb6 (by simp; omega)
          obtain ⟨z0, z1⟩ := p7.cells2b
          have ff := fun i => p7.frozen i
          obtain ⟨y0, y1⟩ := q7.cells2b
          have HB6 := Lib.hid (HB5.out.trans ((below_step (below1 wr _) hb6 (by simp)).mono (by omega)))
          have hl6 : w.heap.size < w6.heap.size := by have := hb6.size; simp at this; omega
          have hl7 : wr.heap.size < w6.heap.size := by have := hb6.size; simp at this; omega
          clear hb6
          by_cases hdo : decOk n2 (-(m2 : Int))
          · have HD := Lib.hid (HXX.out.trans (if_pos hdo))
            rw [decide_eq_true hdo]
            clear hdo
            go_wp2_with fail
            obtain ⟨e0, e1⟩ := ((p7.set 0 (.int .i64 (n2))).set 1 (.int .i64 (-(m2 : Int)))).cells2b
            refine bodyPost_ret (v := .tuple #[.agg #[.int .i64 (n2), .int .i64 (-(m2 : Int))], .bool true]) (by simp [results, Tryz.results126, go_sem, e0, e1]) rfl ⟨by rw [HD.out], HB6.out.trans ((below2s _ _ _ _).mono (Nat.le_refl _))⟩
          · have HD := Lib.hid (HXX.out.trans (if_neg hdo))
            rw [decide_eq_false hdo]
            clear hdo
            go_wp2_with fail
            obtain ⟨e0, e1⟩ := ((p7.set 0 (.int .i64 (0))).set 1 (.int .i64 (0))).cells2b
            refine bodyPost_ret (v := .tuple #[.agg #[.int .i64 (0), .int .i64 (0)], .bool false]) (by simp [results, Tryz.results126, go_sem, e0, e1]) rfl ⟨by rw [HD.out], HB6.out.trans ((below2s _ _ _ _).mono (Nat.le_refl _))⟩
set_option maxHeartbeats 4000000 in
theorem impl_DecNew (n : Int) (m : Nat) (w : World) (hn : I64 n) (hm : m ≤ 40) (htab : Lib.TabBelow Tryz.prog w.heap.size w "internal/strconv.uint64pow10" .u64 Lib.pow10Tab) :
    Calls Tryz.prog 119 #[.int .i64 n, .int .i64 (-(m : Int))] w fun e w' => e = .returned (.tuple #[.agg (cF (decNewD n m).1.1 (decNewD n m).1.2), .bool (decNewD n m).2]) ∧ Below w.heap.size w w' := by
  have HT := Lib.hid htab; clear htab
  have HN := Lib.hid hn
  obtain ⟨hn0, hn1⟩ := hn
  have hdl := digN_le n ⟨hn0, hn1⟩
  have q0 := Is.new w (cF 0 0) 91
  have D40 := Lib.hid (show decide ((-40 : Int) ≤ (-(m : Int)) ∧ (-(m : Int)) ≤ 40) = true from decide_eq_true ⟨by omega, by omega⟩)
  have lg : w.heap.size < (w.alloc (.cells (cF 0 0) 91)).heap.size := by simp
  by_cases h17 : 17 < digN n
  · have HD := Lib.hid (show decNewD n m = ((0, 0), false) from if_pos h17)
    go_enter Tryz.func119, Tryz.ntmps119
    go_wp2_with (go_at_call 161; refine (impl_Digits _ _ HN.out (HT.out _ (below1 _ _))).mono ?_; rintro e w2 ⟨rfl, hb⟩; have p2 := q0.below hb lg; obtain ⟨z0, z1⟩ := p2.cells2b; have ff := fun i => p2.frozen i; have hl2 : w.heap.size < w2.heap.size := Nat.lt_of_lt_of_le lg hb.size; have HB2 := Lib.hid (below_step (below1 w _) hb (by simp)))
    obtain ⟨e0, e1⟩ := ((p2.set 0 (.int .i64 (0))).set 1 (.int .i64 (0))).cells2b
    refine bodyPost_ret (v := .tuple #[.agg #[.int .i64 (0), .int .i64 (0)], .bool false]) (by simp [results, Tryz.results119, go_sem, e0, e1]) rfl ⟨by rw [HD.out], HB2.out.trans ((below2s _ _ _ _).mono (Nat.le_refl _))⟩
  by_cases h0 : n = 0
  · have HD := Lib.hid (show decNewD n m = ((0, 0), true) from (if_neg h17).trans (if_pos h0))
    subst h0
    go_enter Tryz.func119, Tryz.ntmps119
    go_wp2_with (first | (go_at_call 161; refine (impl_Digits _ _ HN.out (HT.out _ (below1 _ _))).mono ?_; rintro e w2 ⟨rfl, hb⟩; have p2 := q0.below hb lg; have hl2 : w.heap.size < w2.heap.size := Nat.lt_of_lt_of_le lg hb.size; have HB2 := Lib.hid (below_step (below1 w _) hb (by simp)); clear hb) | (go_at_call 77; refine (impl_within _ _ _ _).mono ?_; rintro e w3 ⟨rfl, hb⟩; rw [D40.out]; have p3 := p2.below hb hl2; obtain ⟨z0, z1⟩ := p3.cells2b; have ff := fun i => p3.frozen i; have hl3 : w.heap.size < w3.heap.size := Nat.lt_of_lt_of_le hl2 hb.size; have HB3 := Lib.hid (HB2.out.trans (hb.mono HB2.out.size)); clear hb))
    obtain ⟨e0, e1⟩ := ((p3.set 0 (.int .i64 (0))).set 1 (.int .i64 (0))).cells2b
    refine bodyPost_ret (v := .tuple #[.agg #[.int .i64 (0), .int .i64 (0)], .bool true]) (by simp [results, Tryz.results119, go_sem, e0, e1]) rfl ⟨by rw [HD.out], HB3.out.trans ((below2s _ _ _ _).mono (Nat.le_refl _))⟩
  have HX := Lib.hid (show decNewD n m = if decOk (stripD m n).1 (-((stripD m n).2 : Int)) then (((stripD m n).1, -((stripD m n).2 : Int)), true) else ((0, 0), false) from (if_neg h17).trans (if_neg h0))
  have h0' : (n == 0) = false := by simpa using h0
  go_enter Tryz.func119, Tryz.ntmps119
  go_wp2_with (first | (go_at_call 161; refine (impl_Digits _ _ HN.out (HT.out _ (below1 _ _))).mono ?_; rintro e w2 ⟨rfl, hb⟩; have p2 := q0.below hb lg; have hl2 : w.heap.size < w2.heap.size := Nat.lt_of_lt_of_le lg hb.size; have HB2 := Lib.hid (below_step (below1 w _) hb (by simp)); clear hb) | (go_at_call 77; refine (impl_within _ _ _ _).mono ?_; rintro e w3 ⟨rfl, hb⟩; rw [D40.out]; have p3 := p2.below hb hl2; have hl3 : w.heap.size < w3.heap.size := Nat.lt_of_lt_of_le hl2 hb.size; have HB3 := Lib.hid (HB2.out.trans (hb.mono HB2.out.size)); clear hb))
  go_loopw [0, 1] (fun nv xv wr => ∃ (n2 : Int) (m2 : Nat), nv = .int .i64 n2 ∧ xv = .int .i64 (-(m2 : Int)) ∧ -9223372036854775808 ≤ n2 ∧ n2 ≤ 9223372036854775807 ∧ m2 ≤ 40 ∧ Hid (stripD m n = stripD m2 n2) ∧ Below w3.heap.size w3 wr) (fun _ xv _ => (-(intOf xv)).toNat)
  case atStart => exact ⟨n, m, rfl, rfl, hn0, hn1, hm, rfl, Below.refl _ _⟩
  case round =>
    obtain ⟨n2, m2, rfl, rfl, hn2a, hn2b, hm2, HS, hb⟩ := hrel
    have hbs := hb.size
    by_cases hgo : n2.tmod 10 = 0 ∧ 0 < m2
    · obtain ⟨hg1, hg2⟩ := hgo
      have HE := Lib.hid (show stripD m n = stripD (m2 - 1) (n2.tdiv 10) from HS.out.trans (stripD_yes m2 n2 hg2 hg1))
      have ht := tdiv_abs n2
      have hg1' : (n2.tmod 10 == 0) = true := by simp [hg1]
      have hxl : -(m2 : Int) < 0 := by omega
      go_wp2_with fail
      go_roundw
      case rel => exact ⟨n2.tdiv 10, m2 - 1, by first | rfl | go_num, by go_num, by omega, by omega, by omega, HE.out, hb⟩
      case measure => simp only [intOf]; first | omega | (simp; omega)
    · have HE := Lib.hid (show stripD m n = (n2, m2) from HS.out.trans (by
        by_cases hz : m2 = 0
        · rw [hz, stripD_zero]
        · exact stripD_no _ _ (fun h => hgo ⟨h, by omega⟩)))
      have hmm : ¬ (-(m2 : Int) > 0) := by omega
      have HXX := Lib.hid (show decNewD n m = if decOk n2 (-(m2 : Int)) then ((n2, -(m2 : Int)), true) else ((0, 0), false) from by rw [HX.out, HE.out])
      have p4 := p3.below hb hl3
      have HB4 := Lib.hid (HB3.out.trans (hb.mono HB3.out.size))
      have hl4 : w.heap.size < wr.heap.size := by omega
      rename World => w4
      have hstop : ((n2.tmod 10 == 0) = false ∧ -(m2 : Int) < 0) ∨ ((n2.tmod 10 == 0) = false ∧ ¬ (-(m2 : Int) < 0)) ∨ ((n2.tmod 10 == 0) = true ∧ ¬ (-(m2 : Int) < 0)) := by
        by_cases hz : n2.tmod 10 = 0
        · right; right; exact ⟨by simp [hz], fun h => hgo ⟨hz, by omega⟩⟩
        · by_cases hy : -(m2 : Int) < 0
          · left; exact ⟨by simp [hz], hy⟩
          · right; left; exact ⟨by simp [hz], hy⟩
      clear HX HE HS hgo
      rcases hstop with ⟨hst, hst2⟩ | ⟨hst, hst2⟩ | ⟨hst, hst2⟩
      all_goals
        go_wp2_with fail
        go_loopw [0, 1] (fun nv xv wr => nv = .int .i64 n2 ∧ xv = .int .i64 (-(m2 : Int)) ∧ Below w4.heap.size w4 wr) (fun _ _ _ => 0)
        case atStart => exact ⟨rfl, rfl, Below.refl _ _⟩
        case round =>
          obtain ⟨rfl, rfl, hb5⟩ := hrel
          have hbs5 := hb5.size
          have p5 := p4.below hb5 hl4
          have HB5 := Lib.hid (HB4.out.trans (hb5.mono HB4.out.size))
          have hl5 : w.heap.size < wr.heap.size := by omega
          go_wp2_with fail
          have q6 := Is.new wr (cF n2 (-(m2 : Int))) 91
          have p6 := p5.alloc (.cells (cF n2 (-(m2 : Int))) 91)
          refine (impl_DecOk n2 (-(m2 : Int)) _ ⟨hn2a, hn2b⟩ ⟨by omega, by omega⟩ (fun V hV => HT.out V (HB5.out.trans ((below1 _ _).mono HB5.out.size |>.trans (hV.mono (by have := HB5.out.size; simp; omega)))))).mono ?_
          rintro e w6 ⟨rfl, hb6⟩
          have q7 := q6.below hb6 (by simp)
          have p7 := p6.below hb6 (by simp; omega)
          obtain ⟨z0, z1⟩ := p7.cells2b
          have ff := fun i => p7.frozen i
          obtain ⟨y0, y1⟩ := q7.cells2b
          have HB6 := Lib.hid (HB5.out.trans ((below_step (below1 wr _) hb6 (by simp)).mono (by omega)))
          have hl6 : w.heap.size < w6.heap.size := by have := hb6.size; simp at this; omega
          have hl7 : wr.heap.size < w6.heap.size := by have := hb6.size; simp at this; omega
          clear hb6
          by_cases hdo : decOk n2 (-(m2 : Int))
          · have HD := Lib.hid (HXX.out.trans (if_pos hdo))
            rw [decide_eq_true hdo]
            clear hdo
            go_wp2_with fail
            obtain ⟨e0, e1⟩ := ((p7.set 0 (.int .i64 (n2))).set 1 (.int .i64 (-(m2 : Int)))).cells2b
            refine bodyPost_ret (v := .tuple #[.agg #[.int .i64 (n2), .int .i64 (-(m2 : Int))], .bool true]) (by simp [results, Tryz.results119, go_sem, e0, e1]) rfl ⟨by rw [HD.out], HB6.out.trans ((below2s _ _ _ _).mono (Nat.le_refl _))⟩
          · have HD := Lib.hid (HXX.out.trans (if_neg hdo))
            rw [decide_eq_false hdo]
            clear hdo
            go_wp2_with fail
            obtain ⟨e0, e1⟩ := ((p7.set 0 (.int .i64 (0))).set 1 (.int .i64 (0))).cells2b
            refine bodyPost_ret (v := .tuple #[.agg #[.int .i64 (0), .int .i64 (0)], .bool false]) (by simp [results, Tryz.results119, go_sem, e0, e1]) rfl ⟨by rw [HD.out], HB6.out.trans ((below2s _ _ _ _).mono (Nat.le_refl _))⟩
theorem spec_DecNewA (n : Int) (m : Nat) (a b : Int) (w : World) (ha : a = n) (hb : b = -(m : Int)) (hn : I64 n) (hm : m ≤ 40) :
    Calls Tryz.prog 126 #[.int .i64 a, .int .i64 b] w fun e w' => e = .returned (.tuple #[.agg (cF (decNewD n m).1.1 (decNewD n m).1.2), .bool (decNewD n m).2]) ∧ Below w.heap.size w w' := by
  rw [ha, hb]; exact spec_DecNew n m w hn hm
theorem impl_DecNewA (n : Int) (m : Nat) (a b : Int) (w : World) (ha : a = n) (hb : b = -(m : Int)) (hn : I64 n) (hm : m ≤ 40) (htab : Lib.TabBelow Tryz.prog w.heap.size w "internal/strconv.uint64pow10" .u64 Lib.pow10Tab) :
    Calls Tryz.prog 119 #[.int .i64 a, .int .i64 b] w fun e w' => e = .returned (.tuple #[.agg (cF (decNewD n m).1.1 (decNewD n m).1.2), .bool (decNewD n m).2]) ∧ Below w.heap.size w w' := by
  rw [ha, hb]; exact impl_DecNew n m w hn hm htab
end Go.Proofs.YtpifadjlbjifhaaGreatDoor
