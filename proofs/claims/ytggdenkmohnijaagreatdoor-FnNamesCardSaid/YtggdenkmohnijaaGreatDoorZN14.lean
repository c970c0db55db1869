/- Texts of this proof, merged: NamesT. No condition beyond what each theorem states. -/
import Derived.Test.YtggdenkmohnijaaGreatDoorZN13
set_option linter.unusedSimpArgs false
set_option linter.unnecessarySimpa false
namespace Go.Proofs.YtggdenkmohnijaaGreatDoor
open Go.ChangeShapes Go.WideShapes Go.ChangeAt Go.RowKit Go.Joins
set_option linter.unusedVariables false
set_option maxRecDepth 100000
def evN (l : List T) : Nat → List T
  | 0 => []
  | p + 1 => evN l p ++ [l.getD (2 * p) zT]
def namesT (t : T) : List T := if t.k = 10 then evN t.l ((t.l.length + 1) / 2) else []
theorem evN_len (l : List T) (p : Nat) : (evN l p).length = p := by
  induction p with
  | zero => rfl
  | succ p ih => simp [evN, ih]
theorem evN_succ (l : List T) (p i : Nat) (hi : i = 2 * p) (h : i < l.length) : evN l (p + 1) = evN l p ++ [l[i]] := by
  subst hi
  rw [evN, List.getD_eq_getElem?_getD, List.getElem?_eq_getElem h, Option.getD_some]
def onceN (ns : List T) : Nat → Bool
  | 0 => true
  | j + 1 => onceN ns j && !((ns.take j).any fun o => sameT o (ns.getD j zT))
def onceB (t : T) : Bool := onceN (namesT t) (namesT t).length
theorem onceN_succ (ns : List T) (j : Nat) (h : j < ns.length) : onceN ns (j + 1) = (onceN ns j && !((ns.take j).any fun o => sameT o ns[j])) := by
  rw [onceN, List.getD_eq_getElem?_getD, List.getElem?_eq_getElem h, Option.getD_some]
theorem onceN_false (ns : List T) (j n : Nat) (hj : j ≤ n) (h : onceN ns j = false) : onceN ns n = false := by
  induction n with
  | zero => obtain rfl : j = 0 := by omega
            exact h
  | succ n ih =>
    rcases Nat.lt_or_ge n j with hn | hn
    · obtain rfl : j = n + 1 := by omega
      exact h
    · rw [onceN, ih hn]; rfl
def textNm (t : T) : Bool := onceB t && (namesT t).all fun x => decide (x.k = 7)
theorem Row.take {α : Type} {E : World → Nat → Nat → α → List Nat → Prop} {n : Nat} {w : World} {b : Nat} : ∀ (l : List α) {o : Nat} {F : List Nat} (i : Nat), Row E n w b o l F → ∃ G, Row E n w b o (l.take i) G ∧ ∀ f ∈ G, f ∈ F := by
  intro l
  induction l with
  | nil => intro o F i h; exact ⟨[], by simp [Row], by simp⟩
  | cons t r ih =>
    intro o F i h
    cases i with
    | zero => exact ⟨[], by simp [Row], by simp⟩
    | succ i =>
      obtain ⟨F1, F2, rfl, h1, h2⟩ := h
      obtain ⟨G, h3, h4⟩ := ih i h2
      exact ⟨F1 ++ G, ⟨F1, G, rfl, h1, h3⟩, fun f hf => by rcases List.mem_append.1 hf with h | h; simp [h]; simp [h4 f h]⟩
theorem Rd.take {α : Type} {E : World → Nat → Nat → α → List Nat → Prop} {n : Nat} {w : World} {B : Nat} {a : Option Addr} {cap : Nat} {l : List α} (h : Rd E n w B a cap l) (i : Nat) : Rd E n w B a cap (l.take i) := by
  obtain ⟨F, ⟨h1, h2, h3, h4⟩, hF⟩ := h
  by_cases hl : l.take i = []
  · rw [hl]; exact ⟨[], Sl.nil _ _ _ h2, by simp⟩
  · obtain ⟨b, o, F', ha, rfl, hr⟩ := h4 (by rintro rfl; simp at hl)
    obtain ⟨G, hg, hm⟩ := Row.take l i hr
    exact ⟨b :: G, ⟨by rw [List.length_take]; omega, h2, fun h => absurd h hl, fun _ => ⟨b, o, G, ha, rfl, hg⟩⟩, fun f hf => by
      rcases List.mem_cons.1 hf with rfl | hf
      · exact hF f (by simp)
      · exact hF f (by simp [hm f hf])⟩
theorem R.take {w : World} {B : Nat} {a : Option Addr} {cap : Nat} {l : List T} (h : R w B a cap l) (i : Nat) : R w B a cap (l.take i) := R.rd.2 ((R.rd.1 h).take i)
theorem AppL.read {α : Type} {E : World → Nat → Nat → α → List Nat → Prop} {n : Nat} {e : TypeId} {w : World} {rlo cap : Nat} {a : Option Addr} {l : List α} {F : List Nat} (h : AppL E n e w rlo a cap l F) (hlo : rlo ≤ w.heap.size) : Rd E n w w.heap.size a cap l := by
  rcases h with ⟨rfl, rfl, rfl, rfl⟩ | ⟨g, cur, rfl, h1, h3, h4, h5, h6, h7, h8⟩
  · exact Rd.nil _ _
  · have hg : g < w.heap.size := (Array.getElem?_eq_some_iff.1 h3).1
    by_cases hl : l = []
    · subst hl; exact ⟨[], Sl.nil _ _ _ h5, by simp⟩
    · exact ⟨g :: F, ⟨h4, h5, fun h => absurd h hl, fun _ => ⟨g, 0, F, rfl, rfl, h7⟩⟩, fun f hf => by
        rcases List.mem_cons.1 hf with rfl | hf
        · exact hg
        · have := h8 f hf; omega⟩
set_option maxHeartbeats 2000000 in
theorem impl_names (t : T) (a : Option Addr) (cap B : Nat) (w : World) (hr : R w B a cap t.l) (hB : B ≤ w.heap.size) (hlc : t.l.length ≤ 1073741824) :
    Calls Tryz.prog 68 #[.agg (cV t a cap)] w fun e w' => ∃ a' cap', e = .returned (.slice a' (namesT t).length cap') ∧ R w' w'.heap.size a' cap' (namesT t) ∧ Below w.heap.size w w' := by
  obtain ⟨k, n, x, s, l⟩ := t
  simp only [cV, T.k, T.n, T.x, T.s, T.l] at *
  obtain ⟨hl1, hl2⟩ := hr.len
  by_cases hk : k = 10
  · subst hk
    have HNm := Lib.hid (show namesT (.mk 10 n x s l) = evN l ((l.length + 1) / 2) from if_pos rfl)
    have HR := Lib.hid hr; clear hr
    obtain ⟨rlo, hrlo⟩ : ∃ r, r = w.heap.size + 1 := ⟨_, rfl⟩
    have h0 := AppL.empty (E := TV) (n := 5) (e := 26) (w.alloc (Obj.cells #[Value.int IntKind.i64 10, Value.int IntKind.i64 n, Value.int IntKind.i64 x, Value.string s, Value.slice a l.length cap] 26)) rlo (by rw [hrlo]; simp)
    simp only [size_alloc] at h0
    go_enter Tryz.func68, Tryz.ntmps68
    go_wp2_with fail
    generalize hW : (w.alloc (Obj.cells #[Value.int IntKind.i64 10, Value.int IntKind.i64 n, Value.int IntKind.i64 x, Value.string s, Value.slice a l.length cap] 26)).alloc (Obj.cells #[] 26) = W0 at *
    have q1 : Is W0 w.heap.size 26 #[Value.int IntKind.i64 10, Value.int IntKind.i64 n, Value.int IntKind.i64 x, Value.string s, Value.slice a l.length cap] := by subst hW; exact (Is.new _ _ _).alloc _
    have H0 := Lib.hid (show Below w.heap.size w W0 from by subst hW; exact below2 _ _ _)
    have hs0 : W0.heap.size = w.heap.size + 2 := by subst hW; simp
    clear hW
    have lr : w.heap.size < rlo := by omega
    have hrl3 : rlo ≤ W0.heap.size := by omega
    have hBr : B ≤ rlo := by omega
    have hwr : w.heap.size ≤ rlo := by omega
    clear hrlo
    go_loopw [3, 4] (fun q iv wr => ∃ (i p : Nat) (ar : Option Addr) (cr : Nat) (F : List Nat), i ≤ l.length + 1 ∧ iv = .int .i64 i ∧ Hid (i = 2 * p) ∧ q = .slice ar (evN l p).length cr ∧ AppL TV 5 26 wr rlo ar cr (evN l p) F ∧ Below rlo W0 wr) (fun _ iv _ => l.length + 2 - (intOf iv).toNat)
    case atStart => exact ⟨0, 0, _, _, [], by omega, rfl, rfl, rfl, h0, Below.refl _ _⟩
    case round =>
      obtain ⟨i, p, ar, cr, F, hi', rfl, HI, rfl, happ, hb⟩ := hrel
      have hbs := hb.size
      have hbox := q1.below hb lr
      obtain ⟨x0, x1, x2, x3, x4⟩ := hbox.cells5
      have lbox : w.heap.size < wr.heap.size := by omega
      have HBw := Lib.hid (H0.out.trans (hb.mono hwr))
      have hlen := evN_len l p
      have HA := Lib.hid happ; clear happ
      by_cases hlt : i < l.length
      · obtain ⟨b, o, a2, cap2, ha, hbl, d0, d1, d2, d3, d4, hwf, hq⟩ := (HR.out.below HBw.out hB).get i hlt
        obtain ⟨b', o', G, ha', hbl', hv, hG⟩ := (R.rd.1 (HR.out.below HBw.out hB)).get i hlt
        have e2 := ha.symm.trans ha'
        injection e2 with e2; injection e2 with e2 e3
        subst e2 e3 ha
        clear ha'
        have hlb : b < wr.heap.size := by omega
        have HS := Lib.hid (evN_succ l p i HI.out hlt)
        have hip : p ≤ 1073741824 := by have := HI.out; omega
        rw [← T.eta l[i], TV.iff] at hv
        obtain ⟨t0, t1, t2, t3, _, _, _, _, a3, cap3, t4, htl⟩ := hv
        have e4 := d4.symm.trans t4
        injection e4 with e4; injection e4 with e4 e5 e6
        subst e4 e6
        clear t0 t1 t2 t3 t4 e5
        have HTV := Lib.hid (TV.box 26 htl hwf (fun f hf => by have := hG f hf; omega))
        have HG := Lib.hid (show ∀ f ∈ G, f < rlo from fun f hf => by have := hG f hf; omega)
        have HN := Lib.hid (HA.out.agree TV.elem (fun f hf => (below1 wr (.cells (cV l[i] a2 cap2) 26)).block f hf) (by omega))
        clear htl hwf hq hG
        go_wp2_with (at_builtin; refine wpList_appL TV.elem rfl _ _ 24 rfl (.agg zV) 64 Tryz.underlying24 info_Val rfl rlo ar cr (evN l p) F (by first | rfl | (rw [hlen]; rfl)) HN.out (by simp; omega) wr.heap.size 0 1 1 [l[i]] G rfl rfl ⟨G, [], by simp, HTV.out, rfl⟩ HG.out (by omega) (by rw [hlen]; unfold maxLen; omega) (by rw [hlen]; omega) ?_; intro ar2 cr2 w3 happ3 hb3)
        go_roundw
        case rel => exact ⟨i + 2, p + 1, ar2, cr2, F ++ G, by omega, by go_num, by have := HI.out; show _ = _; omega, by rw [HS.out, List.length_append, hlen]; rfl, by rw [HS.out]; exact happ3, (hb.trans ((below1 wr _).mono (by omega))).trans hb3⟩
        case measure => simp [intOf]; omega
      · have hp : p = (l.length + 1) / 2 := by have := HI.out; omega
        have HP := Lib.hid hp; clear hp
        go_wp2_with fail
        go_ret
        refine ⟨ar, cr, by rw [HNm.out, ← HP.out]; rfl, by rw [HNm.out, ← HP.out]; exact R.rd.2 (HA.out.read (by omega)), HBw.out⟩
  · have HNm := Lib.hid (show namesT (.mk k n x s l) = [] from if_neg hk)
    have hk2 : (k == 10) = false := by simpa using hk
    have hk3 : (k != 10) = true := by simpa using hk
    go_enter Tryz.func68, Tryz.ntmps68
    go_wp2_with fail
    go_ret
    exact ⟨_, _, by rw [HNm.out]; rfl, by rw [HNm.out]; exact R.rd.2 ⟨[], Sl.nil _ _ _ (by unfold maxLen; omega), by simp⟩, below2 _ _ _⟩
end Go.Proofs.YtggdenkmohnijaaGreatDoor
