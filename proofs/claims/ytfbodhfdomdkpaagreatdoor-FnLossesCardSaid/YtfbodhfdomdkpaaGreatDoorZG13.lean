/- Texts of this proof, merged: AppS, NamesT, HexT, TextF, ValF. No condition beyond what each theorem states. -/
import Derived.Test.YtfbodhfdomdkpaaGreatDoorRows
import Derived.WalkKit
import Derived.ProofKit
import Derived.OpenShut
import Derived.Handy
import Derived.Lib.Hide
import Derived.Lib.SmallJoins
import Derived.Laws.BytesArg
import Derived.Deep.RegionHeld3
import Derived.Deep.AppendLies
import Derived.Deep.QuietTactic
import Derived.BigQuiet
import Derived.Lib.AppendStr
import Derived.Lib.ValidAsc
import Derived.Test.YtfbodhfdomdkpaaGreatDoorZG1
import Derived.Test.YtfbodhfdomdkpaaGreatDoorZG2
import Derived.Test.YtfbodhfdomdkpaaGreatDoorZG3
import Derived.Test.YtfbodhfdomdkpaaGreatDoorZG4
import Derived.Deep.RegionLaw
import Derived.Lib.ValidLaws
import Derived.Lib.ItoaNum
import Derived.Lib.ItoaLen
import Derived.Lib.AppendIntMem
set_option linter.unusedSimpArgs false
set_option linter.unnecessarySimpa false
namespace Go.Proofs.YtfbodhfdomdkpaaGreatDoor
open Go.ChangeShapes Go.WideShapes Go.ChangeAt Go.RowKit Go.Joins
set_option linter.unusedVariables false
set_option maxRecDepth 100000
/-- A text's bytes, as numbers. -/
def byteL (s : ByteArray) : List Int := s.data.toList.map fun b => (b.toNat : Int)
theorem byteL_len (s : ByteArray) : (byteL s).length = s.size := by unfold byteL; rw [List.length_map, ← Lib.size_eq]
theorem byteL_append (a b : ByteArray) : byteL (a ++ b) = byteL a ++ byteL b := by unfold byteL; simp [ByteArray.data_append]
theorem byteL_str (s : ByteArray) : strOfNums (byteL s) = s := by
  unfold strOfNums byteL
  apply ByteArray.ext; apply Array.ext'
  simp only [List.map_map]
  exact (List.map_congr_left (fun b _ => by simp)).trans (List.map_id _)
theorem byteL_u8 (s : ByteArray) : ∀ x ∈ byteL s, U8 x := by
  intro x hx
  obtain ⟨b, _, rfl⟩ := List.mem_map.1 hx
  have := b.toNat_lt
  exact ⟨by omega, by omega⟩
theorem byteL_cells (s : ByteArray) : (byteL s).map (Value.int .u8) = Lib.strCells s := by unfold byteL Lib.strCells; rw [List.map_map]; rfl
theorem row_bytes {w : World} {g : Nat} : ∀ (l : List Int) (o : Nat), (∀ x ∈ l, U8 x) → (∀ i (h : i < l.length), w.cell? ⟨g, o + i, none⟩ = some (.int .u8 l[i])) → Row EByte 1 w g o l [] := by
  intro l
  induction l with
  | nil => intro o _ _; rfl
  | cons x r ih =>
    intro o hu hc
    refine ⟨[], [], rfl, ⟨rfl, by have := hc 0 (by simp); simpa using this, hu x (by simp)⟩, ih (o + 1) (fun y hy => hu y (by simp [hy])) (fun i h => ?_)⟩
    have := hc (i + 1) (by simp; omega)
    rw [show o + 1 + i = o + (i + 1) from by omega]
    simpa using this
theorem appL_bytes {w : World} {base : Nat} {e : TypeId} {v : Value} {n : Nat} {l : List Int} (hu : ∀ x ∈ l, U8 x) (hn : n = l.length) (h : w.ownsRow base e 1 v n (l.map (Value.int .u8))) : ∃ a cap, v = .slice a l.length cap ∧ AppL EByte 1 e w base a cap l [] := by
  subst hn
  obtain ⟨h0, ⟨rfl, hz⟩ | ⟨g, cap, cur, rfl, h1, h2, h3, h4, h5, h6⟩⟩ := h
  · have : l = [] := List.eq_nil_of_length_eq_zero hz
    subst this
    exact ⟨none, 0, rfl, Or.inl ⟨rfl, rfl, rfl, rfl⟩⟩
  · refine ⟨some ⟨g, 0, none⟩, cap, rfl, Or.inr ⟨g, cur, rfl, h1, h2, h3, h4, h5, row_bytes l 0 hu (fun i hi => ?_), by simp⟩⟩
    have e1 : (cur.toList.take (l.length * 1))[i]? = some (.int .u8 l[i]) := by rw [h6]; simp [hi]
    rw [List.getElem?_take, if_pos (by omega)] at e1
    rw [Nat.zero_add]
    simp [World.cell?, h2]
    simpa using e1
/-- append(out, s...) of a string. -/
theorem wpList_appStr {P : Program} {w : World} {ops : Array Oper} {rest : List Oper} {o : Oper} {act : Act} {Q : Exit → Act → World → Prop} {e : TypeId} (hgd : o.guard = none) (sl x : Operand) (t u : TypeId)
    (ho : o.op = .call { callee := .builtin .append, args := #[sl, x], argTypes := #[t, u] }) (ht : P.underlying t = some (.slice e)) (hu : P.underlying u = some .string) (hinfo : (P.info? e).map (fun i => (i.zero, i.size, i.bytes)) = some (some (.int .u8 0), 1, 1))
    (rlo : Nat) (a : Option Addr) (cap : Nat) (l : List Int) (hl : ∀ x ∈ l, U8 x) (hs : act.eval sl = .slice a l.length cap) (happ : AppL EByte 1 e w rlo a cap l []) (hlo : rlo ≤ w.heap.size) (s : ByteArray) (hx : act.eval x = .string s)
    (hbytes : l.length + s.size ≤ 140737488355328)
    (h : ∀ a' cap' w', AppL EByte 1 e w' rlo a' cap' (l ++ byteL s) [] → Below rlo w w' → (∀ f, f < w.heap.size → (∀ k, (Value.slice a l.length cap).ownBlock = some k → f ≠ k) → w'.heap[f]? = w.heap[f]?) → w.heap.size ≤ w'.heap.size → wpList P ops Q rest (act.put o.dst (.slice a' (l ++ byteL s).length cap')) w') : wpList P ops Q (o :: rest) act w := by
  obtain ⟨i, hi', hz0, hz1, hz2⟩ := info_parts hinfo
  obtain ⟨xs, q1, q2, q3⟩ := happ.owns
  have hxs : xs = l.map (Value.int .u8) := by
    rcases happ with ⟨rfl, rfl, rfl, _⟩ | ⟨g, cur, rfl, h1, h3, h4, h5, h6, h7, h8⟩
    · exact List.eq_nil_of_length_eq_zero (by simpa using q2)
    · apply List.ext_getElem?
      intro j
      by_cases hj : j < l.length
      · obtain ⟨F', hv, _⟩ := h7.get j hj
        have := q3 g rfl j (by omega)
        rw [← this]
        have hv2 := hv.2.1
        rw [Nat.mul_one] at hv2
        rw [hv2]; simp [hj]
      · rw [List.getElem?_eq_none (by omega), List.getElem?_eq_none (by simp; omega)]
  subst hxs
  refine Lib.wpList_append_own_string w hgd sl x t u ho rlo e i ht hu hi' hz0 hz1 hz2 (.slice a l.length cap) l.length (l.map (Value.int .u8)) hs q1 s hx (by unfold maxLen; omega) hbytes hlo (fun v' w' hown hgr _ => ?_)
  rw [← byteL_cells, ← List.map_append] at hown
  obtain ⟨a', cap', rfl, happ'⟩ := appL_bytes (fun x hx => by rcases List.mem_append.1 hx with h | h; exact hl x h; exact byteL_u8 s x h) (by rw [List.length_append, byteL_len]) hown
  have hlow : ∀ k, (Value.slice a l.length cap).ownBlock = some k → rlo ≤ k := fun k hk => (by
    rcases happ with ⟨rfl, rfl, rfl, _⟩ | ⟨g, cur, rfl, k1, _⟩
    · simp [Value.ownBlock] at hk
    · simp only [Value.ownBlock, Option.some.injEq] at hk; omega)
  exact h a' cap' w' happ' ⟨hgr.os, hgr.tape, hgr.output, hgr.size, fun f hf => hgr.block f (by omega) (fun e => by have := hlow f e.symm; omega)⟩ (fun f hf hne => hgr.block f hf (fun e => hne f e.symm rfl)) hgr.size
end Go.Proofs.YtfbodhfdomdkpaaGreatDoor
namespace Go.Proofs.YtfbodhfdomdkpaaGreatDoor
open Go.ChangeShapes Go.WideShapes Go.ChangeAt Go.RowKit Go.Joins
set_option linter.unusedVariables false
set_option maxRecDepth 100000
/-! ### The names of a map -/
def evN (l : List T) : Nat → List T
  | 0 => []
  | p + 1 => evN l p ++ [l.getD (2 * p) zT]
def namesT (t : T) : List T := if t.k = 10 then evN t.l ((t.l.length + 1) / 2) else []
theorem evN_len (l : List T) (p : Nat) : (evN l p).length = p := by
  induction p with
  | zero => rfl
  | succ p ih => simp [evN, ih]
theorem evN_succ (l : List T) (p i : Nat) (hi : i = 2 * p) (h : i < l.length) : evN l (p + 1) = evN l p ++ [l[i]] := by
  subst hi
  rw [evN, List.getD_eq_getElem?_getD, List.getElem?_eq_getElem h, Option.getD_some]
theorem evN_mem (l : List T) (p : Nat) (hp : 2 * p ≤ l.length + 1) : ∀ x ∈ evN l p, x ∈ l := by
  induction p with
  | zero => intro x hx; simp [evN] at hx
  | succ p ih =>
    intro x hx
    rw [evN_succ l p (2 * p) rfl (by omega)] at hx
    rcases List.mem_append.1 hx with h | h
    · exact ih (by omega) x h
    · rw [List.mem_singleton] at h; subst h; exact List.getElem_mem _
def onceN (ns : List T) : Nat → Bool
  | 0 => true
  | j + 1 => onceN ns j && !((ns.take j).any fun o => sameT o (ns.getD j zT))
def onceB (t : T) : Bool := onceN (namesT t) (namesT t).length
theorem onceN_succ (ns : List T) (j : Nat) (h : j < ns.length) : onceN ns (j + 1) = (onceN ns j && !((ns.take j).any fun o => sameT o ns[j])) := by
  rw [onceN, List.getD_eq_getElem?_getD, List.getElem?_eq_getElem h, Option.getD_some]
theorem onceN_false (ns : List T) (j n : Nat) (hj : j ≤ n) (h : onceN ns j = false) : onceN ns n = false := by
  induction n with
  | zero => obtain rfl : j = 0 := by omega
            exact h
  | succ n ih =>
    rcases Nat.lt_or_ge n j with hn | hn
    · obtain rfl : j = n + 1 := by omega
      exact h
    · rw [onceN, ih hn]; rfl
def textNm (t : T) : Bool := onceB t && (namesT t).all fun x => decide (x.k = 7)
theorem Row.take {α : Type} {E : World → Nat → Nat → α → List Nat → Prop} {n : Nat} {w : World} {b : Nat} : ∀ (l : List α) {o : Nat} {F : List Nat} (i : Nat), Row E n w b o l F → ∃ G, Row E n w b o (l.take i) G ∧ ∀ f ∈ G, f ∈ F := by
  intro l
  induction l with
  | nil => intro o F i h; exact ⟨[], by simp [Row], by simp⟩
  | cons t r ih =>
    intro o F i h
    cases i with
    | zero => exact ⟨[], by simp [Row], by simp⟩
    | succ i =>
      obtain ⟨F1, F2, rfl, h1, h2⟩ := h
      obtain ⟨G, h3, h4⟩ := ih i h2
      exact ⟨F1 ++ G, ⟨F1, G, rfl, h1, h3⟩, fun f hf => by rcases List.mem_append.1 hf with h | h; simp [h]; simp [h4 f h]⟩
theorem Rd.take {α : Type} {E : World → Nat → Nat → α → List Nat → Prop} {n : Nat} {w : World} {B : Nat} {a : Option Addr} {cap : Nat} {l : List α} (h : Rd E n w B a cap l) (i : Nat) : Rd E n w B a cap (l.take i) := by
  obtain ⟨F, ⟨h1, h2, h3, h4⟩, hF⟩ := h
  by_cases hl : l.take i = []
  · rw [hl]; exact ⟨[], Sl.nil _ _ _ h2, by simp⟩
  · obtain ⟨b, o, F', ha, rfl, hr⟩ := h4 (by rintro rfl; simp at hl)
    obtain ⟨G, hg, hm⟩ := Row.take l i hr
    exact ⟨b :: G, ⟨by rw [List.length_take]; omega, h2, fun h => absurd h hl, fun _ => ⟨b, o, G, ha, rfl, hg⟩⟩, fun f hf => by
      rcases List.mem_cons.1 hf with rfl | hf
      · exact hF f (by simp)
      · exact hF f (by simp [hm f hf])⟩
theorem R.take {w : World} {B : Nat} {a : Option Addr} {cap : Nat} {l : List T} (h : R w B a cap l) (i : Nat) : R w B a cap (l.take i) := R.rd.2 ((R.rd.1 h).take i)
theorem AppL.read {α : Type} {E : World → Nat → Nat → α → List Nat → Prop} {n : Nat} {e : TypeId} {w : World} {rlo cap : Nat} {a : Option Addr} {l : List α} {F : List Nat} (h : AppL E n e w rlo a cap l F) (hlo : rlo ≤ w.heap.size) : Rd E n w w.heap.size a cap l := by
  rcases h with ⟨rfl, rfl, rfl, rfl⟩ | ⟨g, cur, rfl, h1, h3, h4, h5, h6, h7, h8⟩
  · exact Rd.nil _ _
  · have hg : g < w.heap.size := (Array.getElem?_eq_some_iff.1 h3).1
    by_cases hl : l = []
    · subst hl; exact ⟨[], Sl.nil _ _ _ h5, by simp⟩
    · exact ⟨g :: F, ⟨h4, h5, fun h => absurd h hl, fun _ => ⟨g, 0, F, rfl, rfl, h7⟩⟩, fun f hf => by
        rcases List.mem_cons.1 hf with rfl | hf
        · exact hg
        · have := h8 f hf; omega⟩
set_option maxHeartbeats 2000000 in
theorem impl_names (t : T) (a : Option Addr) (cap B : Nat) (w : World) (hr : R w B a cap t.l) (hB : B ≤ w.heap.size) (hlc : t.l.length ≤ 1073741824) :
    Calls Tryz.prog 120 #[.agg (cV t a cap)] w fun e w' => ∃ a' cap', e = .returned (.slice a' (namesT t).length cap') ∧ R w' w'.heap.size a' cap' (namesT t) ∧ Below w.heap.size w w' := by
  obtain ⟨k, n, x, s, l⟩ := t
  simp only [cV, T.k, T.n, T.x, T.s, T.l] at *
  obtain ⟨hl1, hl2⟩ := hr.len
  by_cases hk : k = 10
  · subst hk
    have HNm := Lib.hid (show namesT (.mk 10 n x s l) = evN l ((l.length + 1) / 2) from if_pos rfl)
    have HR := Lib.hid hr; clear hr
    obtain ⟨rlo, hrlo⟩ : ∃ r, r = w.heap.size + 1 := ⟨_, rfl⟩
    have h0 := AppL.empty (E := TV) (n := 5) (e := 36) (w.alloc (Obj.cells #[Value.int IntKind.i64 10, Value.int IntKind.i64 n, Value.int IntKind.i64 x, Value.string s, Value.slice a l.length cap] 36)) rlo (by rw [hrlo]; simp)
    simp only [size_alloc] at h0
    go_enter Tryz.func120, Tryz.ntmps120
    go_wp2_with fail
    generalize hW : (w.alloc (Obj.cells #[Value.int IntKind.i64 10, Value.int IntKind.i64 n, Value.int IntKind.i64 x, Value.string s, Value.slice a l.length cap] 36)).alloc (Obj.cells #[] 36) = W0 at *
    have q1 : Is W0 w.heap.size 36 #[Value.int IntKind.i64 10, Value.int IntKind.i64 n, Value.int IntKind.i64 x, Value.string s, Value.slice a l.length cap] := by subst hW; exact (Is.new _ _ _).alloc _
    have H0 := Lib.hid (show Below w.heap.size w W0 from by subst hW; exact below2 _ _ _)
    have hs0 : W0.heap.size = w.heap.size + 2 := by subst hW; simp
    clear hW
    have lr : w.heap.size < rlo := by omega
    have hrl3 : rlo ≤ W0.heap.size := by omega
    have hBr : B ≤ rlo := by omega
    have hwr : w.heap.size ≤ rlo := by omega
    clear hrlo
    go_loopw [3, 4] (fun q iv wr => ∃ (i p : Nat) (ar : Option Addr) (cr : Nat) (F : List Nat), i ≤ l.length + 1 ∧ iv = .int .i64 i ∧ Hid (i = 2 * p) ∧ q = .slice ar (evN l p).length cr ∧ AppL TV 5 36 wr rlo ar cr (evN l p) F ∧ Below rlo W0 wr) (fun _ iv _ => l.length + 2 - (intOf iv).toNat)
    case atStart => exact ⟨0, 0, _, _, [], by omega, rfl, rfl, rfl, h0, Below.refl _ _⟩
    case round =>
      obtain ⟨i, p, ar, cr, F, hi', rfl, HI, rfl, happ, hb⟩ := hrel
      have hbs := hb.size
      have hbox := q1.below hb lr
      obtain ⟨x0, x1, x2, x3, x4⟩ := hbox.cells5
      have lbox : w.heap.size < wr.heap.size := by omega
      have HBw := Lib.hid (H0.out.trans (hb.mono hwr))
      have hlen := evN_len l p
      have HA := Lib.hid happ; clear happ
      by_cases hlt : i < l.length
      · obtain ⟨b, o, a2, cap2, ha, hbl, d0, d1, d2, d3, d4, hwf, hq⟩ := (HR.out.below HBw.out hB).get i hlt
        obtain ⟨b', o', G, ha', hbl', hv, hG⟩ := (R.rd.1 (HR.out.below HBw.out hB)).get i hlt
        have e2 := ha.symm.trans ha'
        injection e2 with e2; injection e2 with e2 e3
        subst e2 e3 ha
        clear ha'
        have hlb : b < wr.heap.size := by omega
        have HS := Lib.hid (evN_succ l p i HI.out hlt)
        have hip : p ≤ 1073741824 := by have := HI.out; omega
        rw [← T.eta l[i], TV.iff] at hv
        obtain ⟨t0, t1, t2, t3, _, _, _, _, a3, cap3, t4, htl⟩ := hv
        have e4 := d4.symm.trans t4
        injection e4 with e4; injection e4 with e4 e5 e6
        subst e4 e6
        clear t0 t1 t2 t3 t4 e5
        have HTV := Lib.hid (TV.box 36 htl hwf (fun f hf => by have := hG f hf; omega))
        have HG := Lib.hid (show ∀ f ∈ G, f < rlo from fun f hf => by have := hG f hf; omega)
        have HN := Lib.hid (HA.out.agree TV.elem (fun f hf => (below1 wr (.cells (cV l[i] a2 cap2) 36)).block f hf) (by omega))
        clear htl hwf hq hG
        go_wp2_with (at_builtin; refine wpList_appL TV.elem rfl _ _ 34 rfl (.agg zV) 64 Tryz.underlying34 info_Val rfl rlo ar cr (evN l p) F (by first | rfl | (rw [hlen]; rfl)) HN.out (by simp; omega) wr.heap.size 0 1 1 [l[i]] G rfl rfl ⟨G, [], by simp, HTV.out, rfl⟩ HG.out (by omega) (by rw [hlen]; unfold maxLen; omega) (by rw [hlen]; omega) ?_; intro ar2 cr2 w3 happ3 hb3)
        go_roundw
        case rel => exact ⟨i + 2, p + 1, ar2, cr2, F ++ G, by omega, by go_num, by have := HI.out; show _ = _; omega, by rw [HS.out, List.length_append, hlen]; rfl, by rw [HS.out]; exact happ3, (hb.trans ((below1 wr _).mono (by omega))).trans hb3⟩
        case measure => simp [intOf]; omega
      · have hp : p = (l.length + 1) / 2 := by have := HI.out; omega
        have HP := Lib.hid hp; clear hp
        go_wp2_with fail
        go_ret
        refine ⟨ar, cr, by rw [HNm.out, ← HP.out]; rfl, by rw [HNm.out, ← HP.out]; exact R.rd.2 (HA.out.read (by omega)), HBw.out⟩
  · have HNm := Lib.hid (show namesT (.mk k n x s l) = [] from if_neg hk)
    have hk2 : (k == 10) = false := by simpa using hk
    have hk3 : (k != 10) = true := by simpa using hk
    go_enter Tryz.func120, Tryz.ntmps120
    go_wp2_with fail
    go_ret
    exact ⟨_, _, by rw [HNm.out]; rfl, by rw [HNm.out]; exact R.rd.2 ⟨[], Sl.nil _ _ _ (by unfold maxLen; omega), by simp⟩, below2 _ _ _⟩
end Go.Proofs.YtfbodhfdomdkpaaGreatDoor
namespace Go.Proofs.YtfbodhfdomdkpaaGreatDoor
open Go.ChangeShapes Go.WideShapes Go.ChangeAt Go.RowKit Go.Joins
set_option linter.unusedVariables false
set_option maxRecDepth 100000
/-- The number of a hexadecimal digit's sign. -/
def hexD (k : Int) : Int := if k < 10 then 48 + k else 87 + k
def hexL : List UInt8 → List Int
  | [] => []
  | b :: r => hexD ((b.toNat : Int) / 16) :: hexD ((b.toNat : Int) % 16) :: hexL r
theorem hexL_append (a b : List UInt8) : hexL (a ++ b) = hexL a ++ hexL b := by
  induction a with
  | nil => rfl
  | cons x r ih => simp [hexL, ih]
theorem hexL_len (a : List UInt8) : (hexL a).length = 2 * a.length := by
  induction a with
  | nil => rfl
  | cons x r ih => simp [hexL, ih]; omega
theorem hexD_u8 (k : Int) (h0 : 0 ≤ k) (h : k < 16) : U8 (hexD k) := by
  unfold hexD U8; split <;> omega
theorem hexL_succ (s : ByteArray) (j : Nat) (h : j < s.size) : hexL (s.data.toList.take (j + 1)) = hexL (s.data.toList.take j) ++ [hexD (((s[j]'h).toNat : Int) / 16), hexD (((s[j]'h).toNat : Int) % 16)] := by
  have hl : j < s.data.toList.length := by rw [← Lib.size_eq]; exact h
  rw [take_snoc _ j hl, hexL_append]; rfl
theorem hex_dig (k : Int) (h0 : 0 ≤ k) (h : k < 16) : ∀ hh : k.toNat < (⟨#[48, 49, 50, 51, 52, 53, 54, 55, 56, 57, 97, 98, 99, 100, 101, 102]⟩ : ByteArray).size, ((((⟨#[48, 49, 50, 51, 52, 53, 54, 55, 56, 57, 97, 98, 99, 100, 101, 102]⟩ : ByteArray))[k.toNat]'hh).toNat : Int) = hexD k := by
  obtain rfl | rfl | rfl | rfl | rfl | rfl | rfl | rfl | rfl | rfl | rfl | rfl | rfl | rfl | rfl | rfl : k = 0 ∨ k = 1 ∨ k = 2 ∨ k = 3 ∨ k = 4 ∨ k = 5 ∨ k = 6 ∨ k = 7 ∨ k = 8 ∨ k = 9 ∨ k = 10 ∨ k = 11 ∨ k = 12 ∨ k = 13 ∨ k = 14 ∨ k = 15 := by omega
  all_goals intro hh; rfl
theorem and15 : ∀ X : Fin 256, bits .and .u8 ((X.val : Nat) : Int) 15 = ((X.val : Nat) : Int) % 16 := by decide
/-- A text's bytes in hexadecimal digits. -/
def hexT (s : ByteArray) : ByteArray := strOfNums (hexL s.data.toList)
theorem info_Byte2 : (Tryz.prog.info? 5).map (fun i => (i.zero, i.size, i.bytes)) = some (some (.int .u8 0), 1, 1) := by kernel_rfl
theorem make_cap {P : Program} {t e : TypeId} {z : Value} {size bytes : Nat} {cs : Array Value} (ht : P.underlying t = some (.slice e)) (hinfo : (P.info? e).map (fun i => (i.zero, i.size, i.bytes)) = some (some z, size, bytes)) (hcs : z.cells = cs)
    (n : Nat) (x : Int) (hx : x = n) (h : bytes * n ≤ 281474976710656) (h2 : n ≤ 9223372036854775807) (w : World) :
    (Instr.makeSlice t (.int .i64 0) (.int .i64 x)).run P w = .ok (.slice (some ⟨w.heap.size, 0, none⟩) 0 n) (w.alloc (.cells (madeCells cs (n * size)) e)) := by
  obtain ⟨i, hi, hz0, hz1, hz2⟩ := info_parts hinfo
  subst hz1 hz2 hcs hx
  have := run_make w t e i z ht hi hz0 .i64 .i64 0 (n : Int) (by omega) (by omega) (by rw [← Int.natCast_mul]; omega) (by omega)
  simpa using this
theorem AppL.made {E : World → Nat → Nat → Int → List Nat → Prop} {e : TypeId} (w : World) (rlo n : Nat) (v : Value) (hl : rlo ≤ w.heap.size) (hn : n ≤ maxLen) : AppL E 1 e (w.alloc (.cells (madeCells #[v] (n * 1)) e)) rlo (Option.some ⟨w.heap.size, 0, none⟩) n [] [] :=
  Or.inr ⟨w.heap.size, madeCells #[v] (n * 1), rfl, hl, heap_alloc_new w _, Nat.zero_le _, hn, size_madeCells _ _, rfl, by simp⟩
/-- A row of bytes, as a string. -/
theorem conv_bytes (w : World) (rlo : Nat) (a : Option Addr) (cap : Nat) (l : List Int) (F : List Nat) (h : AppL EByte 1 5 w rlo a cap l F) :
    (convert 22 9 (.slice a l.length cap)).run Tryz.prog w = .ok (.string (strOfNums l)) w := by
  rcases h with ⟨rfl, rfl, rfl, _⟩ | ⟨g, cur, rfl, h1, h3, h4, h5, h6, h7, h8⟩
  · exact run_convert_bytes_nil w 22 5 Tryz.underlying22 Tryz.underlying5 0 0 9 Tryz.underlying9
  · exact run_convert_bytes_arg w 22 5 Tryz.underlying22 Tryz.underlying5 g 0 l.length cap l rfl (fun i hi => by
      obtain ⟨F', hv, _⟩ := h7.get i hi
      have := hv.2.1
      rw [Nat.mul_one] at this
      rw [this, List.getD_eq_getElem?_getD, List.getElem?_eq_getElem hi]; rfl) 9 Tryz.underlying9
set_option maxHeartbeats 4000000 in
theorem spec_HexText (s : ByteArray) (w : World) (hs : s.size ≤ 1048576) :
    Calls Tryz.prog 229 #[.string s] w fun e w' => e = .returned (.string (hexT s)) ∧ Below w.heap.size w w' := by
  have h0 := AppL.empty (E := EByte) (n := 1) (e := 5) w w.heap.size (Nat.le_refl _)
  go_enter Tryz.func229, Tryz.ntmps229
  go_wp2_with fail
  go_loopw [3, 4] (fun q i wr => ∃ (j : Nat) (ar : Option Addr) (cr : Nat), j ≤ s.size ∧ i = .int .i64 j ∧ q = .slice ar (hexL (s.data.toList.take j)).length cr ∧ AppL EByte 1 5 wr w.heap.size ar cr (hexL (s.data.toList.take j)) [] ∧ Below w.heap.size w wr) (fun _ i _ => s.size - (intOf i).toNat)
  case atStart => exact ⟨0, _, _, Nat.zero_le _, rfl, rfl, h0, below1 _ _⟩
  case round =>
    obtain ⟨j, ar, cr, hj, rfl, rfl, happ, hb⟩ := hrel
    have hbs := hb.size
    have HA := Lib.hid happ; clear happ
    by_cases hlt : j < s.size
    · have HLEN := Lib.hid (Lib.size_eq s)
      have hlen : (hexL (s.data.toList.take j)).length = 2 * j := by rw [hexL_len, List.length_take]; have := HLEN.out; omega
      have hx := (s[j]'hlt).toNat_lt
      have hand := and15 ⟨(s[j]'hlt).toNat, hx⟩
      simp only at hand
      have hc1 : 0 ≤ ((s[j]'hlt).toNat : Int) / 16 ∧ ((s[j]'hlt).toNat : Int) / 16 < 16 := by omega
      have hc2 : 0 ≤ ((s[j]'hlt).toNat : Int) % 16 ∧ ((s[j]'hlt).toNat : Int) % 16 < 16 := by omega
      have hv1 := hex_dig _ hc1.1 hc1.2
      have hv2 := hex_dig _ hc2.1 hc2.2
      have HS := Lib.hid (hexL_succ s j hlt)
      have HU1 := Lib.hid (hexD_u8 _ hc1.1 hc1.2)
      have HU2 := Lib.hid (hexD_u8 _ hc2.1 hc2.2)
      go_wp2_with fail
      refine wp_region_held_drew (S := fun w' => (∀ b o, b < w.heap.size → w'.cell? ⟨b, o, none⟩ = wr.cell? ⟨b, o, none⟩) ∧ Below (w.heap.size) wr w') (by kernel_rfl) (by first | exact ⟨fun _ _ _ => rfl, (Below.refl _ _).drew⟩ | exact keep_step (by assumption) (Below.drew (Below.refl _ _)) (Nat.le_refl _) | exact keep_step (by assumption) (by assumption) (by first | omega | ((try simp only [World.size_drew, size_alloc]); omega) | (have := (‹(_ ∧ Below (w.heap.size) wr _)›).2.size; (try simp only [World.size_drew, size_alloc] at this ⊢); omega))) (fun hHeld => ?_)
      refine wpAnyH_take (i := 0) (oi := ⟨some 12, _, _, _, _, _⟩) (v := ?_) rfl (by kernel_rfl) (by kernel_rfl) (by kernel_rfl) (fun _ _ _ h => h) (Or.inl ⟨by rfl, ?_⟩) (by assumption) ?_
      rotate_left 1
      · (intro w hSw; (try dsimp only at hSw); go_simp; (try simp only [hand, dif_pos hc1, dif_pos hc2, hv1, hv2]); try (with_reducible rfl))
      try simp only [Act.put, List.setIfInBounds_toArray, List.set_cons_zero, List.set_cons_succ]
      refine wpAnyH_take (i := 1) (oi := ⟨some 13, _, _, _, _, _⟩) (v := ?_) rfl (by kernel_rfl) (by kernel_rfl) (by kernel_rfl) (fun _ _ _ h => h) (Or.inl ⟨by rfl, ?_⟩) (by assumption) ?_
      rotate_left 1
      · (intro w hSw; (try dsimp only at hSw); go_simp; (try simp only [hand, dif_pos hc1, dif_pos hc2, hv1, hv2]); try (with_reducible rfl))
      try simp only [Act.put, List.setIfInBounds_toArray, List.set_cons_zero, List.set_cons_succ]
      refine wpAnyH_take (i := 2) (oi := ⟨some 14, _, _, _, _, _⟩) (v := ?_) rfl (by kernel_rfl) (by kernel_rfl) (by kernel_rfl) (fun _ _ _ h => h) (Or.inl ⟨by rfl, ?_⟩) (by assumption) ?_
      rotate_left 1
      · (intro w hSw; (try dsimp only at hSw); go_simp; (try simp only [hand, dif_pos hc1, dif_pos hc2, hv1, hv2]); try (with_reducible rfl))
      try simp only [Act.put, List.setIfInBounds_toArray, List.set_cons_zero, List.set_cons_succ]
      refine wpAnyH_take (i := 3) (oi := ⟨some 15, _, _, _, _, _⟩) (v := ?_) rfl (by kernel_rfl) (by kernel_rfl) (by kernel_rfl) (fun _ _ _ h => h) (Or.inl ⟨by rfl, ?_⟩) (by assumption) ?_
      rotate_left 1
      · (intro w hSw; (try dsimp only at hSw); go_simp; (try simp only [hand, dif_pos hc1, dif_pos hc2, hv1, hv2]); try (with_reducible rfl))
      try simp only [Act.put, List.setIfInBounds_toArray, List.set_cons_zero, List.set_cons_succ]
      refine wpAnyH_take (i := 4) (oi := ⟨some 16, _, _, _, _, _⟩) (v := ?_) rfl (by kernel_rfl) (by kernel_rfl) (by kernel_rfl) (fun _ _ _ h => h) (Or.inl ⟨by rfl, ?_⟩) (by assumption) ?_
      rotate_left 1
      · (intro w hSw; (try dsimp only at hSw); go_simp; (try simp only [hand, dif_pos hc1, dif_pos hc2, hv1, hv2]); try (with_reducible rfl))
      try simp only [Act.put, List.setIfInBounds_toArray, List.set_cons_zero, List.set_cons_succ]
      refine wpAnyH_take (i := 5) (oi := ⟨some 17, _, _, _, _, _⟩) (v := ?_) rfl (by kernel_rfl) (by kernel_rfl) (by kernel_rfl) (fun _ _ _ h => h) (Or.inl ⟨by rfl, ?_⟩) (by assumption) ?_
      rotate_left 1
      · (intro w hSw; (try dsimp only at hSw); go_simp; (try simp only [hand, dif_pos hc1, dif_pos hc2, hv1, hv2]); try (with_reducible rfl))
      try simp only [Act.put, List.setIfInBounds_toArray, List.set_cons_zero, List.set_cons_succ]
      refine wpAnyH_take (i := 6) (oi := ⟨some 18, _, _, _, _, _⟩) (v := ?_) rfl (by kernel_rfl) (by kernel_rfl) (by kernel_rfl) (fun _ _ _ h => h) (Or.inl ⟨by rfl, ?_⟩) (by assumption) ?_
      rotate_left 1
      · (intro w hSw; (try dsimp only at hSw); go_simp; (try simp only [hand, dif_pos hc1, dif_pos hc2, hv1, hv2]); try (with_reducible rfl))
      try simp only [Act.put, List.setIfInBounds_toArray, List.set_cons_zero, List.set_cons_succ]
      refine wpAnyH_take (i := 7) (oi := ⟨some 19, _, _, _, _, _⟩) (v := ?_) rfl (by kernel_rfl) (by kernel_rfl) (by kernel_rfl) (fun _ _ _ h => h) (Or.inl ⟨by rfl, ?_⟩) (by assumption) ?_
      rotate_left 1
      · (intro w hSw; (try dsimp only at hSw); go_simp; (try simp only [hand, dif_pos hc1, dif_pos hc2, hv1, hv2]); try (with_reducible rfl))
      try simp only [Act.put, List.setIfInBounds_toArray, List.set_cons_zero, List.set_cons_succ]
      refine wpAnyH_take (i := 8) (oi := ⟨some 20, _, _, _, _, _⟩) (v := ?_) rfl (by kernel_rfl) (by kernel_rfl) (by kernel_rfl) (fun _ _ _ h => h) (Or.inl ⟨by rfl, ?_⟩) (by assumption) ?_
      rotate_left 1
      · (intro w hSw; (try dsimp only at hSw); go_simp; (try simp only [hand, dif_pos hc1, dif_pos hc2, hv1, hv2]); try (with_reducible rfl))
      try simp only [Act.put, List.setIfInBounds_toArray, List.set_cons_zero, List.set_cons_succ]
      refine wpAnyH_take (i := 9) (oi := ⟨some 21, _, _, _, _, _⟩) (v := ?_) rfl (by kernel_rfl) (by kernel_rfl) (by kernel_rfl) (fun _ _ _ h => h) (Or.inl ⟨by rfl, ?_⟩) (by assumption) ?_
      rotate_left 1
      · (intro w hSw; (try dsimp only at hSw); go_simp; (try simp only [hand, dif_pos hc1, dif_pos hc2, hv1, hv2]); try (with_reducible rfl))
      try simp only [Act.put, List.setIfInBounds_toArray, List.set_cons_zero, List.set_cons_succ]
      refine wpAnyH_take (i := 10) (oi := ⟨some 22, _, _, _, _, _⟩) (v := ?_) rfl (by kernel_rfl) (by kernel_rfl) (by kernel_rfl) (fun _ _ _ h => h) (Or.inl ⟨by rfl, ?_⟩) (by assumption) ?_
      rotate_left 1
      · (intro w hSw; (try dsimp only at hSw); go_simp; (try simp only [hand, dif_pos hc1, dif_pos hc2, hv1, hv2]); try (with_reducible rfl))
      try simp only [Act.put, List.setIfInBounds_toArray, List.set_cons_zero, List.set_cons_succ]
      refine wpAnyH_ready (rs := [11]) (by kernel_rfl) (by simp) ?_
      refine AllReadyH.cons (o := ⟨some 23, _, _, _, _, _⟩) rfl (fun K hK => ?_) AllReadyH.nil
      go_simp
      go_wp2_with fail
      refine hK.out _ _ (by first | (with_reducible exact keep_step (by assumption) (below1 _ _) (by first | omega | ((try simp only [World.size_drew, size_alloc]); omega) | (have := (‹(_ ∧ Below (w.heap.size) wr _)›).2.size; (try simp only [World.size_drew, size_alloc] at this ⊢); omega))) | (exact keep_step (by assumption) (below1 _ _) (by first | omega | ((try simp only [World.size_drew, size_alloc]); omega) | (have := (‹(_ ∧ Below (w.heap.size) wr _)›).2.size; (try simp only [World.size_drew, size_alloc] at this ⊢); omega)))) (fun hHeld => ?_)
      clear hK K
      try simp only [Act.put, List.setIfInBounds_toArray, List.set_cons_zero, List.set_cons_succ]
      refine wpAnyH_ready (rs := [12]) (by kernel_rfl) (by simp) ?_
      refine AllReadyH.cons (o := ⟨some 24, _, _, _, _, _⟩) rfl (fun K hK => ?_) AllReadyH.nil
      focus (((refine step_appL EByte.elem rfl _ _ 22 rfl (.int .u8 0) 1 Tryz.underlying22 info_Byte2 rfl w.heap.size ar cr (hexL (s.data.toList.take j)) [] (by first | rfl | (rw [hlen]; rfl)) (HA.out.agree EByte.elem (fun f hf => (below1 wr.drew _).block f hf) (by omega)) (by simp; omega) wr.heap.size 0 2 2 [hexD (((s[j]'hlt).toNat : Int) / 16), hexD (((s[j]'hlt).toNat : Int) % 16)] [] rfl rfl ⟨[], [], rfl, ⟨rfl, (Is.new wr.drew #[.int .u8 (hexD (((s[j]'hlt).toNat : Int) / 16)), .int .u8 (hexD (((s[j]'hlt).toNat : Int) % 16))] 5).cell 0 rfl, HU1.out⟩, ⟨[], [], rfl, ⟨rfl, (Is.new wr.drew #[.int .u8 (hexD (((s[j]'hlt).toNat : Int) / 16)), .int .u8 (hexD (((s[j]'hlt).toNat : Int) % 16))] 5).cell 1 rfl, HU2.out⟩, rfl⟩⟩ (by simp) (by omega) (by rw [hlen]; unfold maxLen; omega) (by rw [hlen]; omega) ?_; intro ar2 cr2 w4 happ4 hb4)); refine hK.out _ _ (by first | (with_reducible exact keep_step (by assumption) (by assumption) (by first | omega | ((try simp only [World.size_drew, size_alloc]); omega) | (have := (‹(_ ∧ Below (w.heap.size) wr _)›).2.size; (try simp only [World.size_drew, size_alloc] at this ⊢); omega))) | first | exact ⟨fun _ _ _ => rfl, (Below.refl _ _).drew⟩ | exact keep_step (by assumption) (Below.drew (Below.refl _ _)) (Nat.le_refl _) | exact keep_step (by assumption) (by assumption) (by first | omega | ((try simp only [World.size_drew, size_alloc]); omega) | (have := (‹(_ ∧ Below (w.heap.size) wr _)›).2.size; (try simp only [World.size_drew, size_alloc] at this ⊢); omega))) (fun hHeld => ?_); clear hK K; try simp only [Act.put, List.setIfInBounds_toArray, List.set_cons_zero, List.set_cons_succ])
      refine wpAnyH_take (i := 13) (oi := ⟨some 3, _, _, _, _, _⟩) (v := ?_) rfl (by kernel_rfl) (by kernel_rfl) (by kernel_rfl) (fun _ _ _ h => h) (Or.inl ⟨by rfl, ?_⟩) (by assumption) ?_
      rotate_left 1
      · (intro w hSw; (try dsimp only at hSw); go_simp; (try simp only [hand, dif_pos hc1, dif_pos hc2, hv1, hv2]); try (with_reducible rfl))
      try simp only [Act.put, List.setIfInBounds_toArray, List.set_cons_zero, List.set_cons_succ]
      refine wpAnyH_done (by kernel_rfl) ?_ _
      have HB4 := Lib.hid (show Below w.heap.size wr _ from (‹_ ∧ Below (w.heap.size) wr _›).2)
      go_wp2_with fail
      go_roundw
      case rel => exact ⟨j + 1, ar2, cr2, by omega, by go_num, by rw [HS.out, List.length_append, hlen]; rfl, by rw [HS.out]; exact happ4, hb.trans HB4.out⟩
      case measure => simp [intOf]; omega
    · have hjj : s.size = j := by omega
      have HJ := Lib.hid (show s.data.toList.take j = s.data.toList from by rw [← hjj, Lib.size_eq, List.take_length]); clear hjj
      have hcv := conv_bytes wr w.heap.size ar cr _ [] HA.out
      rw [HJ.out] at hcv ⊢
      have HH := Lib.hid (show hexT s = strOfNums (hexL s.data.toList) from rfl)
      generalize hexL s.data.toList = L at *
      generalize strOfNums L = O at *
      go_wp2_with fail
      go_ret
      exact ⟨ret_s HH.out.symm, hb⟩
set_option maxHeartbeats 4000000 in
theorem impl_HexText (s : ByteArray) (w : World) (hs : s.size ≤ 1048576) :
    Calls Tryz.prog 219 #[.string s] w fun e w' => e = .returned (.string (hexT s)) ∧ Below w.heap.size w w' := by
  have h0 := AppL.made (E := EByte) (e := 5) w w.heap.size (2 * s.size) (.int .u8 0) (Nat.le_refl _) (by unfold maxLen; omega)
  have hmk := fun w => make_cap (P := Tryz.prog) Tryz.underlying22 info_Byte2 rfl (2 * s.size) (2 * (s.size : Int)) (by omega) (by omega) (by omega) w
  go_enter Tryz.func219, Tryz.ntmps219
  go_wp2_with fail
  clear hmk
  rw [Nat.mul_one] at h0
  go_loopw [3, 11, 4] (fun q i _ wr => ∃ (j : Nat) (ar : Option Addr) (cr : Nat), j ≤ s.size ∧ i = .int .i64 j ∧ q = .slice ar (hexL (s.data.toList.take j)).length cr ∧ AppL EByte 1 5 wr w.heap.size ar cr (hexL (s.data.toList.take j)) [] ∧ Below w.heap.size w wr) (fun _ i _ _ => s.size - (intOf i).toNat)
  case atStart => exact ⟨0, _, _, Nat.zero_le _, rfl, rfl, h0, below1 _ _⟩
  case round =>
    obtain ⟨j, ar, cr, hj, rfl, rfl, happ, hb⟩ := hrel
    have hbs := hb.size
    have HA := Lib.hid happ; clear happ
    by_cases hlt : j < s.size
    · have HLEN := Lib.hid (Lib.size_eq s)
      have hlen : (hexL (s.data.toList.take j)).length = 2 * j := by rw [hexL_len, List.length_take]; have := HLEN.out; omega
      have hx := (s[j]'hlt).toNat_lt
      have hand := and15 ⟨(s[j]'hlt).toNat, hx⟩
      simp only at hand
      have hc1 : 0 ≤ ((s[j]'hlt).toNat : Int) / 16 ∧ ((s[j]'hlt).toNat : Int) / 16 < 16 := by omega
      have hc2 : 0 ≤ ((s[j]'hlt).toNat : Int) % 16 ∧ ((s[j]'hlt).toNat : Int) % 16 < 16 := by omega
      have hv1 := hex_dig _ hc1.1 hc1.2
      have hv2 := hex_dig _ hc2.1 hc2.2
      have HS := Lib.hid (hexL_succ s j hlt)
      have HU1 := Lib.hid (hexD_u8 _ hc1.1 hc1.2)
      have HU2 := Lib.hid (hexD_u8 _ hc2.1 hc2.2)
      go_wp2_with fail
      refine wp_region_held_drew (S := fun w' => (∀ b o, b < w.heap.size → w'.cell? ⟨b, o, none⟩ = wr.cell? ⟨b, o, none⟩) ∧ Below (w.heap.size) wr w') (by kernel_rfl) (by first | exact ⟨fun _ _ _ => rfl, (Below.refl _ _).drew⟩ | exact keep_step (by assumption) (Below.drew (Below.refl _ _)) (Nat.le_refl _) | exact keep_step (by assumption) (by assumption) (by first | omega | ((try simp only [World.size_drew, size_alloc]); omega) | (have := (‹(_ ∧ Below (w.heap.size) wr _)›).2.size; (try simp only [World.size_drew, size_alloc] at this ⊢); omega))) (fun hHeld => ?_)
      refine wpAnyH_take (i := 0) (oi := ⟨some 14, _, _, _, _, _⟩) (v := ?_) rfl (by kernel_rfl) (by kernel_rfl) (by kernel_rfl) (fun _ _ _ h => h) (Or.inl ⟨by rfl, ?_⟩) (by assumption) ?_
      rotate_left 1
      · (intro w hSw; (try dsimp only at hSw); go_simp; (try simp only [hand, dif_pos hc1, dif_pos hc2, hv1, hv2]); try (with_reducible rfl))
      try simp only [Act.put, List.setIfInBounds_toArray, List.set_cons_zero, List.set_cons_succ]
      refine wpAnyH_take (i := 1) (oi := ⟨some 15, _, _, _, _, _⟩) (v := ?_) rfl (by kernel_rfl) (by kernel_rfl) (by kernel_rfl) (fun _ _ _ h => h) (Or.inl ⟨by rfl, ?_⟩) (by assumption) ?_
      rotate_left 1
      · (intro w hSw; (try dsimp only at hSw); go_simp; (try simp only [hand, dif_pos hc1, dif_pos hc2, hv1, hv2]); try (with_reducible rfl))
      try simp only [Act.put, List.setIfInBounds_toArray, List.set_cons_zero, List.set_cons_succ]
      refine wpAnyH_take (i := 2) (oi := ⟨some 16, _, _, _, _, _⟩) (v := ?_) rfl (by kernel_rfl) (by kernel_rfl) (by kernel_rfl) (fun _ _ _ h => h) (Or.inl ⟨by rfl, ?_⟩) (by assumption) ?_
      rotate_left 1
      · (intro w hSw; (try dsimp only at hSw); go_simp; (try simp only [hand, dif_pos hc1, dif_pos hc2, hv1, hv2]); try (with_reducible rfl))
      try simp only [Act.put, List.setIfInBounds_toArray, List.set_cons_zero, List.set_cons_succ]
      refine wpAnyH_take (i := 3) (oi := ⟨some 17, _, _, _, _, _⟩) (v := ?_) rfl (by kernel_rfl) (by kernel_rfl) (by kernel_rfl) (fun _ _ _ h => h) (Or.inl ⟨by rfl, ?_⟩) (by assumption) ?_
      rotate_left 1
      · (intro w hSw; (try dsimp only at hSw); go_simp; (try simp only [hand, dif_pos hc1, dif_pos hc2, hv1, hv2]); try (with_reducible rfl))
      try simp only [Act.put, List.setIfInBounds_toArray, List.set_cons_zero, List.set_cons_succ]
      refine wpAnyH_take (i := 4) (oi := ⟨some 18, _, _, _, _, _⟩) (v := ?_) rfl (by kernel_rfl) (by kernel_rfl) (by kernel_rfl) (fun _ _ _ h => h) (Or.inl ⟨by rfl, ?_⟩) (by assumption) ?_
      rotate_left 1
      · (intro w hSw; (try dsimp only at hSw); go_simp; (try simp only [hand, dif_pos hc1, dif_pos hc2, hv1, hv2]); try (with_reducible rfl))
      try simp only [Act.put, List.setIfInBounds_toArray, List.set_cons_zero, List.set_cons_succ]
      refine wpAnyH_take (i := 5) (oi := ⟨some 19, _, _, _, _, _⟩) (v := ?_) rfl (by kernel_rfl) (by kernel_rfl) (by kernel_rfl) (fun _ _ _ h => h) (Or.inl ⟨by rfl, ?_⟩) (by assumption) ?_
      rotate_left 1
      · (intro w hSw; (try dsimp only at hSw); go_simp; (try simp only [hand, dif_pos hc1, dif_pos hc2, hv1, hv2]); try (with_reducible rfl))
      try simp only [Act.put, List.setIfInBounds_toArray, List.set_cons_zero, List.set_cons_succ]
      refine wpAnyH_take (i := 6) (oi := ⟨some 20, _, _, _, _, _⟩) (v := ?_) rfl (by kernel_rfl) (by kernel_rfl) (by kernel_rfl) (fun _ _ _ h => h) (Or.inl ⟨by rfl, ?_⟩) (by assumption) ?_
      rotate_left 1
      · (intro w hSw; (try dsimp only at hSw); go_simp; (try simp only [hand, dif_pos hc1, dif_pos hc2, hv1, hv2]); try (with_reducible rfl))
      try simp only [Act.put, List.setIfInBounds_toArray, List.set_cons_zero, List.set_cons_succ]
      refine wpAnyH_take (i := 7) (oi := ⟨some 21, _, _, _, _, _⟩) (v := ?_) rfl (by kernel_rfl) (by kernel_rfl) (by kernel_rfl) (fun _ _ _ h => h) (Or.inl ⟨by rfl, ?_⟩) (by assumption) ?_
      rotate_left 1
      · (intro w hSw; (try dsimp only at hSw); go_simp; (try simp only [hand, dif_pos hc1, dif_pos hc2, hv1, hv2]); try (with_reducible rfl))
      try simp only [Act.put, List.setIfInBounds_toArray, List.set_cons_zero, List.set_cons_succ]
      refine wpAnyH_take (i := 8) (oi := ⟨some 22, _, _, _, _, _⟩) (v := ?_) rfl (by kernel_rfl) (by kernel_rfl) (by kernel_rfl) (fun _ _ _ h => h) (Or.inl ⟨by rfl, ?_⟩) (by assumption) ?_
      rotate_left 1
      · (intro w hSw; (try dsimp only at hSw); go_simp; (try simp only [hand, dif_pos hc1, dif_pos hc2, hv1, hv2]); try (with_reducible rfl))
      try simp only [Act.put, List.setIfInBounds_toArray, List.set_cons_zero, List.set_cons_succ]
      refine wpAnyH_take (i := 9) (oi := ⟨some 23, _, _, _, _, _⟩) (v := ?_) rfl (by kernel_rfl) (by kernel_rfl) (by kernel_rfl) (fun _ _ _ h => h) (Or.inl ⟨by rfl, ?_⟩) (by assumption) ?_
      rotate_left 1
      · (intro w hSw; (try dsimp only at hSw); go_simp; (try simp only [hand, dif_pos hc1, dif_pos hc2, hv1, hv2]); try (with_reducible rfl))
      try simp only [Act.put, List.setIfInBounds_toArray, List.set_cons_zero, List.set_cons_succ]
      refine wpAnyH_take (i := 10) (oi := ⟨some 24, _, _, _, _, _⟩) (v := ?_) rfl (by kernel_rfl) (by kernel_rfl) (by kernel_rfl) (fun _ _ _ h => h) (Or.inl ⟨by rfl, ?_⟩) (by assumption) ?_
      rotate_left 1
      · (intro w hSw; (try dsimp only at hSw); go_simp; (try simp only [hand, dif_pos hc1, dif_pos hc2, hv1, hv2]); try (with_reducible rfl))
      try simp only [Act.put, List.setIfInBounds_toArray, List.set_cons_zero, List.set_cons_succ]
      refine wpAnyH_ready (rs := [11]) (by kernel_rfl) (by simp) ?_
      refine AllReadyH.cons (o := ⟨some 25, _, _, _, _, _⟩) rfl (fun K hK => ?_) AllReadyH.nil
      go_simp
      go_wp2_with fail
      refine hK.out _ _ (by first | (with_reducible exact keep_step (by assumption) (below1 _ _) (by first | omega | ((try simp only [World.size_drew, size_alloc]); omega) | (have := (‹(_ ∧ Below (w.heap.size) wr _)›).2.size; (try simp only [World.size_drew, size_alloc] at this ⊢); omega))) | (exact keep_step (by assumption) (below1 _ _) (by first | omega | ((try simp only [World.size_drew, size_alloc]); omega) | (have := (‹(_ ∧ Below (w.heap.size) wr _)›).2.size; (try simp only [World.size_drew, size_alloc] at this ⊢); omega)))) (fun hHeld => ?_)
      clear hK K
      try simp only [Act.put, List.setIfInBounds_toArray, List.set_cons_zero, List.set_cons_succ]
      refine wpAnyH_ready (rs := [12]) (by kernel_rfl) (by simp) ?_
      refine AllReadyH.cons (o := ⟨some 26, _, _, _, _, _⟩) rfl (fun K hK => ?_) AllReadyH.nil
      focus (((refine step_appL EByte.elem rfl _ _ 22 rfl (.int .u8 0) 1 Tryz.underlying22 info_Byte2 rfl w.heap.size ar cr (hexL (s.data.toList.take j)) [] (by first | rfl | (rw [hlen]; rfl)) (HA.out.agree EByte.elem (fun f hf => (below1 wr.drew _).block f hf) (by omega)) (by simp; omega) wr.heap.size 0 2 2 [hexD (((s[j]'hlt).toNat : Int) / 16), hexD (((s[j]'hlt).toNat : Int) % 16)] [] rfl rfl ⟨[], [], rfl, ⟨rfl, (Is.new wr.drew #[.int .u8 (hexD (((s[j]'hlt).toNat : Int) / 16)), .int .u8 (hexD (((s[j]'hlt).toNat : Int) % 16))] 5).cell 0 rfl, HU1.out⟩, ⟨[], [], rfl, ⟨rfl, (Is.new wr.drew #[.int .u8 (hexD (((s[j]'hlt).toNat : Int) / 16)), .int .u8 (hexD (((s[j]'hlt).toNat : Int) % 16))] 5).cell 1 rfl, HU2.out⟩, rfl⟩⟩ (by simp) (by omega) (by rw [hlen]; unfold maxLen; omega) (by rw [hlen]; omega) ?_; intro ar2 cr2 w4 happ4 hb4)); refine hK.out _ _ (by first | (with_reducible exact keep_step (by assumption) (by assumption) (by first | omega | ((try simp only [World.size_drew, size_alloc]); omega) | (have := (‹(_ ∧ Below (w.heap.size) wr _)›).2.size; (try simp only [World.size_drew, size_alloc] at this ⊢); omega))) | first | exact ⟨fun _ _ _ => rfl, (Below.refl _ _).drew⟩ | exact keep_step (by assumption) (Below.drew (Below.refl _ _)) (Nat.le_refl _) | exact keep_step (by assumption) (by assumption) (by first | omega | ((try simp only [World.size_drew, size_alloc]); omega) | (have := (‹(_ ∧ Below (w.heap.size) wr _)›).2.size; (try simp only [World.size_drew, size_alloc] at this ⊢); omega))) (fun hHeld => ?_); clear hK K; try simp only [Act.put, List.setIfInBounds_toArray, List.set_cons_zero, List.set_cons_succ])
      refine wpAnyH_take (i := 13) (oi := ⟨some 3, _, _, _, _, _⟩) (v := ?_) rfl (by kernel_rfl) (by kernel_rfl) (by kernel_rfl) (fun _ _ _ h => h) (Or.inl ⟨by rfl, ?_⟩) (by assumption) ?_
      rotate_left 1
      · (intro w hSw; (try dsimp only at hSw); go_simp; (try simp only [hand, dif_pos hc1, dif_pos hc2, hv1, hv2]); try (with_reducible rfl))
      try simp only [Act.put, List.setIfInBounds_toArray, List.set_cons_zero, List.set_cons_succ]
      refine wpAnyH_done (by kernel_rfl) ?_ _
      have HB4 := Lib.hid (show Below w.heap.size wr _ from (‹_ ∧ Below (w.heap.size) wr _›).2)
      go_wp2_with fail
      go_roundw
      case rel => exact ⟨j + 1, ar2, cr2, by omega, by go_num, by rw [HS.out, List.length_append, hlen]; rfl, by rw [HS.out]; exact happ4, hb.trans HB4.out⟩
      case measure => simp [intOf]; omega
    · have hjj : s.size = j := by omega
      have HJ := Lib.hid (show s.data.toList.take j = s.data.toList from by rw [← hjj, Lib.size_eq, List.take_length]); clear hjj
      have hcv := conv_bytes wr w.heap.size ar cr _ [] HA.out
      rw [HJ.out] at hcv ⊢
      have HH := Lib.hid (show hexT s = strOfNums (hexL s.data.toList) from rfl)
      generalize hexL s.data.toList = L at *
      generalize strOfNums L = O at *
      go_wp2_with fail
      go_ret
      exact ⟨ret_s HH.out.symm, hb⟩
end Go.Proofs.YtfbodhfdomdkpaaGreatDoor
namespace Go.Proofs.YtfbodhfdomdkpaaGreatDoor
open Go.ChangeShapes Go.WideShapes Go.ChangeAt Go.RowKit Go.Joins
set_option linter.unusedVariables false
set_option maxRecDepth 100000
/-- The character at the head of a text of n bytes that begins b0 b1 b2 b3, and its width; width 0: none. -/
def grW (n b0 b1 b2 b3 : Nat) : Nat × Nat :=
  if b0 < 128 then (b0, 1)
  else if 192 ≤ b0 ∧ b0 ≤ 223 then (if 2 ≤ n ∧ (128 ≤ b1 ∧ b1 ≤ 191) ∧ 128 ≤ (b0 - 192) * 64 + (b1 - 128) then ((b0 - 192) * 64 + (b1 - 128), 2) else (0, 0))
  else if 224 ≤ b0 ∧ b0 ≤ 239 then (if 3 ≤ n ∧ (128 ≤ b1 ∧ b1 ≤ 191) ∧ (128 ≤ b2 ∧ b2 ≤ 191) ∧ 2048 ≤ (b0 - 224) * 4096 + (b1 - 128) * 64 + (b2 - 128) ∧ ¬ (55296 ≤ (b0 - 224) * 4096 + (b1 - 128) * 64 + (b2 - 128) ∧ (b0 - 224) * 4096 + (b1 - 128) * 64 + (b2 - 128) ≤ 57343) then ((b0 - 224) * 4096 + (b1 - 128) * 64 + (b2 - 128), 3) else (0, 0))
  else if 240 ≤ b0 ∧ b0 ≤ 247 then (if 4 ≤ n ∧ (128 ≤ b1 ∧ b1 ≤ 191) ∧ (128 ≤ b2 ∧ b2 ≤ 191) ∧ (128 ≤ b3 ∧ b3 ≤ 191) ∧ 65536 ≤ (b0 - 240) * 262144 + (b1 - 128) * 4096 + (b2 - 128) * 64 + (b3 - 128) ∧ (b0 - 240) * 262144 + (b1 - 128) * 4096 + (b2 - 128) * 64 + (b3 - 128) ≤ 1114111 then ((b0 - 240) * 262144 + (b1 - 128) * 4096 + (b2 - 128) * 64 + (b3 - 128), 4) else (0, 0))
  else (0, 0)
set_option maxHeartbeats 4000000 in
theorem grW_decode (n b0 b1 b2 b3 : Nat) (hn : 1 ≤ n) (h0 : b0 < 256) (h1 : b1 < 256) (h2 : b2 < 256) (h3 : b3 < 256) :
    ((grW n b0 b1 b2 b3).2 = 0 ∧ Lib.decodeN n b0 b1 b2 b3 = (65533, 1)) ∨ ((grW n b0 b1 b2 b3).2 ≠ 0 ∧ Lib.decodeN n b0 b1 b2 b3 = grW n b0 b1 b2 b3 ∧ (grW n b0 b1 b2 b3).2 ≤ n ∧ ((grW n b0 b1 b2 b3).2 = 1 → (grW n b0 b1 b2 b3).1 < 128)) := by
  unfold grW Lib.decodeN
  by_cases c0 : b0 < 128
  · rw [if_pos c0]; right; exact ⟨by simp, by rw [if_pos c0], by simpa using hn, fun _ => c0⟩
  rw [if_neg c0, if_neg c0]
  by_cases c1 : 192 ≤ b0 ∧ b0 ≤ 223
  · rw [if_pos c1]
    by_cases d : 2 ≤ n ∧ (128 ≤ b1 ∧ b1 ≤ 191) ∧ 128 ≤ (b0 - 192) * 64 + (b1 - 128)
    · rw [if_pos d, if_pos (by omega), if_pos (by omega)]; right
      exact ⟨by simp, by apply Prod.ext <;> simp only <;> omega, by simp only; omega, by simp⟩
    · rw [if_neg d]; left
      refine ⟨rfl, ?_⟩
      by_cases e : b0 / 32 = 6 ∧ (1 < n ∧ b1 / 64 = 2)
      · rw [if_pos e, if_neg (by omega)]
      · rw [if_neg e, if_neg (by omega), if_neg (by omega)]
  rw [if_neg c1]
  by_cases c2 : 224 ≤ b0 ∧ b0 ≤ 239
  · rw [if_pos c2]
    by_cases d : 3 ≤ n ∧ (128 ≤ b1 ∧ b1 ≤ 191) ∧ (128 ≤ b2 ∧ b2 ≤ 191) ∧ 2048 ≤ (b0 - 224) * 4096 + (b1 - 128) * 64 + (b2 - 128) ∧ ¬ (55296 ≤ (b0 - 224) * 4096 + (b1 - 128) * 64 + (b2 - 128) ∧ (b0 - 224) * 4096 + (b1 - 128) * 64 + (b2 - 128) ≤ 57343)
    · rw [if_pos d, if_neg (by omega), if_pos (by omega), if_pos (by omega)]; right
      exact ⟨by simp, by apply Prod.ext <;> simp only <;> omega, by simp only; omega, by simp⟩
    · rw [if_neg d]; left
      refine ⟨rfl, ?_⟩
      rw [if_neg (by omega)]
      by_cases e : b0 / 16 = 14 ∧ (1 < n ∧ b1 / 64 = 2) ∧ (2 < n ∧ b2 / 64 = 2)
      · rw [if_pos e, if_neg (by omega)]
      · rw [if_neg e, if_neg (by omega)]
  rw [if_neg c2]
  by_cases c3 : 240 ≤ b0 ∧ b0 ≤ 247
  · rw [if_pos c3]
    by_cases d : 4 ≤ n ∧ (128 ≤ b1 ∧ b1 ≤ 191) ∧ (128 ≤ b2 ∧ b2 ≤ 191) ∧ (128 ≤ b3 ∧ b3 ≤ 191) ∧ 65536 ≤ (b0 - 240) * 262144 + (b1 - 128) * 4096 + (b2 - 128) * 64 + (b3 - 128) ∧ (b0 - 240) * 262144 + (b1 - 128) * 4096 + (b2 - 128) * 64 + (b3 - 128) ≤ 1114111
    · rw [if_pos d, if_neg (by omega), if_neg (by omega), if_pos (by omega), if_pos (by omega)]; right
      exact ⟨by simp, by apply Prod.ext <;> simp only <;> omega, by simp only; omega, by simp⟩
    · rw [if_neg d]; left
      refine ⟨rfl, ?_⟩
      rw [if_neg (by omega), if_neg (by omega)]
      by_cases e : b0 / 8 = 30 ∧ (1 < n ∧ b1 / 64 = 2) ∧ (2 < n ∧ b2 / 64 = 2) ∧ (3 < n ∧ b3 / 64 = 2)
      · rw [if_pos e, if_neg (by omega)]
      · rw [if_neg e]
  rw [if_neg c3]; left
  exact ⟨rfl, by rw [if_neg (by omega), if_neg (by omega), if_neg (by omega)]⟩
def grL (l : List UInt8) : Nat × Nat := grW l.length (l.getD 0 0).toNat (l.getD 1 0).toNat (l.getD 2 0).toNat (l.getD 3 0).toNat
theorem grL_cases (l : List UInt8) (hne : l ≠ []) : ((grL l).2 = 0 ∧ Lib.decodeL l = (65533, 1)) ∨ ((grL l).2 ≠ 0 ∧ Lib.decodeL l = grL l ∧ (grL l).2 ≤ l.length ∧ ((grL l).2 = 1 → (grL l).1 < 128)) := by
  have hl : 0 < l.length := List.length_pos_iff.2 hne
  rw [Lib.decodeL_N]
  exact grW_decode _ _ _ _ _ hl (l.getD 0 0).toNat_lt (l.getD 1 0).toNat_lt (l.getD 2 0).toNat_lt (l.getD 3 0).toNat_lt
theorem validD_gr (l : List UInt8) (hne : l ≠ []) : Lib.validD l = if (grL l).2 = 0 then false else Lib.validD (l.drop (grL l).2) := by
  rw [Lib.validD_step l hne]
  rcases grL_cases l hne with ⟨h1, h2⟩ | ⟨h1, h2, h3, h4⟩
  · rw [h2, if_pos h1]; simp
  · rw [h2, if_neg h1, if_neg (fun h => by have := h4 h.2; omega)]
end Go.Proofs.YtfbodhfdomdkpaaGreatDoor
namespace Go.Proofs.YtfbodhfdomdkpaaGreatDoor
open Go.ChangeShapes Go.WideShapes Go.ChangeAt Go.RowKit Go.Joins
set_option linter.unusedVariables false
set_option maxRecDepth 100000
theorem spec_l1In (n lo hi : Int) (w : World) : Calls Tryz.prog 88 #[.int .i64 n, .int .i64 lo, .int .i64 hi] w fun e w' => e = .returned (.bool (decide (lo ≤ n ∧ n ≤ hi))) ∧ Below w.heap.size w w' := by
  by_cases h1 : lo ≤ n
  · by_cases h2 : n ≤ hi
    · have hd : decide (lo ≤ n ∧ n ≤ hi) = true := decide_eq_true ⟨h1, h2⟩
      rw [hd]; clear hd
      go_enter Tryz.func88, Tryz.ntmps88
      go_wp2
      go_ret
      exact ⟨rfl, by go_grown⟩
    · have hd : decide (lo ≤ n ∧ n ≤ hi) = false := decide_eq_false (fun h => h2 h.2)
      rw [hd]; clear hd
      go_enter Tryz.func88, Tryz.ntmps88
      go_wp2
      go_ret
      exact ⟨rfl, by go_grown⟩
  · have hd : decide (lo ≤ n ∧ n ≤ hi) = false := decide_eq_false (fun h => h1 h.1)
    rw [hd]; clear hd
    go_enter Tryz.func88, Tryz.ntmps88
    go_wp2
    go_ret
    exact ⟨rfl, by go_grown⟩
theorem impl_within (n lo hi : Int) (w : World) : Calls Tryz.prog 140 #[.int .i64 n, .int .i64 lo, .int .i64 hi] w fun e w' => e = .returned (.bool (decide (lo ≤ n ∧ n ≤ hi))) ∧ Below w.heap.size w w' := by
  by_cases h1 : lo ≤ n
  · by_cases h2 : n ≤ hi
    · have hd : decide (lo ≤ n ∧ n ≤ hi) = true := decide_eq_true ⟨h1, h2⟩
      rw [hd]; clear hd
      go_enter Tryz.func140, Tryz.ntmps140
      go_wp2
      go_ret
      exact ⟨rfl, by go_grown⟩
    · have hd : decide (lo ≤ n ∧ n ≤ hi) = false := decide_eq_false (fun h => h2 h.2)
      rw [hd]; clear hd
      go_enter Tryz.func140, Tryz.ntmps140
      go_wp2
      go_ret
      exact ⟨rfl, by go_grown⟩
  · have hd : decide (lo ≤ n ∧ n ≤ hi) = false := decide_eq_false (fun h => h1 h.1)
    rw [hd]; clear hd
    go_enter Tryz.func140, Tryz.ntmps140
    go_wp2
    go_ret
    exact ⟨rfl, by go_grown⟩
/-- The number of decimal digits. -/
def digN (n : Int) : Nat := Lib.nDigits n.natAbs
def digC (m : Nat) : Nat := if m = 0 then 0 else Lib.nDigits m
theorem digC_zero : digC 0 = 0 := rfl
theorem nDigits_eq (u : Nat) : Lib.nDigits u = 1 + digC (u / 10) := by
  rw [Lib.nDigits]
  by_cases h : u < 10
  · rw [dif_pos h, show u / 10 = 0 from by omega]; rfl
  · rw [dif_neg h]; unfold digC; rw [if_neg (by omega)]; omega
theorem digC_pos (m : Nat) (h : m ≠ 0) : digC m = digC (m / 10) + 1 := by
  conv => lhs; unfold digC
  rw [if_neg h, nDigits_eq]; omega
theorem digN_eq (n : Int) : digN n = 1 + digC (n.natAbs / 10) := nDigits_eq _
theorem tdiv_abs (n : Int) : (n.tdiv 10).natAbs = n.natAbs / 10 := by
  rw [Int.natAbs_tdiv]; rfl
theorem digN_le (n : Int) (h : I64 n) : digN n ≤ 20 := Lib.nDigits_le20 _ (by have := h.1; have := h.2; omega)
set_option maxHeartbeats 800000 in
theorem spec_Digits (n : Int) (w : World) (hn : I64 n) : Calls Tryz.prog 222 #[.int .i64 n] w fun e w' => e = .returned (.int .i64 (digN n)) ∧ Below w.heap.size w w' := by
  obtain ⟨hn0, hn1⟩ := hn
  have HD := Lib.hid (digN_eq n)
  have h20 := digN_le n ⟨hn0, hn1⟩
  go_enter Tryz.func222, Tryz.ntmps222
  go_wp2_with fail
  go_loopw [3, 4] (fun s q wr => ∃ (m : Int) (c : Nat), q = .int .i64 m ∧ s = .int .i64 c ∧ -9223372036854775808 ≤ m ∧ m ≤ 9223372036854775807 ∧ c ≤ 20 ∧ Hid (digN n = c + digC m.natAbs) ∧ Below w.heap.size w wr) (fun _ q _ => (intOf q).natAbs)
  case atStart => exact ⟨n.tdiv 10, 1, by go_num, rfl, by have := tdiv_abs n; omega, by have := tdiv_abs n; omega, by omega, by show _ = _; rw [tdiv_abs]; exact HD.out, Below.refl _ _⟩
  case round =>
    obtain ⟨m, c, rfl, rfl, hm0, hm1, hc, HC, hb⟩ := hrel
    by_cases hz : m = 0
    · subst hz
      have HE := Lib.hid (show digN n = c from by have := HC.out; rw [show (0 : Int).natAbs = 0 from rfl, digC_zero] at this; omega)
      go_wp2_with fail
      go_ret
      exact ⟨by rw [HE.out]; rfl, hb⟩
    · have hc2 : c + 1 ≤ 20 := by have := HC.out; rw [digC_pos _ (by omega)] at this; omega
      have HC2 := Lib.hid (show digN n = (c + 1) + digC (m.tdiv 10).natAbs from by have := HC.out; rw [digC_pos _ (by omega)] at this; rw [tdiv_abs]; omega)
      have hlt : (m.tdiv 10).natAbs < m.natAbs := by rw [tdiv_abs]; omega
      have ht0 : -9223372036854775808 ≤ m.tdiv 10 := by have := tdiv_abs m; omega
      have ht1 : m.tdiv 10 ≤ 9223372036854775807 := by have := tdiv_abs m; omega
      go_wp2_with fail
      go_roundw
      case rel => exact ⟨m.tdiv 10, c + 1, by go_num, by go_num, ht0, ht1, hc2, HC2.out, hb⟩
      case measure => exact hlt
end Go.Proofs.YtfbodhfdomdkpaaGreatDoor
