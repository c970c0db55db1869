/- Texts of this proof, merged: NamesT, NamesT2, FitsP, AppS, BigP, AppG, KeepX. No condition beyond what each theorem states. -/
import Derived.Test.YtggdenkmohnijaaGreatDoorZO6
import Derived.Deep.RegionLaw
import Derived.Lib.AppendStr
import Derived.Deep.AppendSrc
import Derived.Deep.Upon
import Derived.Lib.AppendZeros
set_option linter.unusedSimpArgs false
set_option linter.unnecessarySimpa false
namespace Go.Proofs.YtggdenkmohnijaaGreatDoor
open Go.ChangeShapes Go.WideShapes Go.ChangeAt Go.RowKit Go.Joins
set_option linter.unusedVariables false
set_option maxRecDepth 100000
def evN (l : List T) : Nat → List T
 | 0 => []
 | p + 1 => evN l p ++ [l.getD (2 * p) zT]
def namesT (t : T) : List T := if t.k = 10 then evN t.l ((t.l.length + 1) / 2) else []
theorem evN_len (l : List T) (p : Nat) : (evN l p).length = p := by
 induction p with
 | zero => rfl
 | succ p ih => simp [evN, ih]
theorem evN_succ (l : List T) (p i : Nat) (hi : i = 2 * p) (h : i < l.length) : evN l (p + 1) = evN l p ++ [l[i]] := by
 subst hi
 rw [evN, List.getD_eq_getElem?_getD, List.getElem?_eq_getElem h, Option.getD_some]
theorem evN_mem (l : List T) (p : Nat) (hp : 2 * p ≤ l.length + 1) : ∀ x ∈ evN l p, x ∈ l := by
 induction p with
 | zero => intro x hx; simp [evN] at hx
 | succ p ih =>
  intro x hx
  rw [evN_succ l p (2 * p) rfl (by omega)] at hx
  rcases List.mem_append.1 hx with h | h
  ·exact ih (by omega) x h
  ·rw [List.mem_singleton] at h; subst h; exact List.getElem_mem _
def onceN (ns : List T) : Nat → Bool
 | 0 => true
 | j + 1 => onceN ns j && !((ns.take j).any fun o => sameT o (ns.getD j zT))
theorem onceN_succ (ns : List T) (j : Nat) (h : j < ns.length) : onceN ns (j + 1) = (onceN ns j && !((ns.take j).any fun o => sameT o ns[j])) := by
 rw [onceN, List.getD_eq_getElem?_getD, List.getElem?_eq_getElem h, Option.getD_some]
theorem Row.take {α : Type} {E : World → Nat → Nat → α → List Nat → Prop} {n : Nat} {w : World} {b : Nat} : ∀ (l : List α) {o : Nat} {F : List Nat} (i : Nat), Row E n w b o l F → ∃ G, Row E n w b o (l.take i) G ∧ ∀ f ∈ G, f ∈ F := by
 intro l
 induction l with
 | nil => intro o F i h; exact ⟨[], by simp [Row], by simp⟩
 | cons t r ih =>
  intro o F i h
  cases i with
  | zero => exact ⟨[], by simp [Row], by simp⟩
  | succ i =>
   obtain ⟨F1, F2, rfl, h1, h2⟩ := h
   obtain ⟨G, h3, h4⟩ := ih i h2
   exact ⟨F1 ++ G, ⟨F1, G, rfl, h1, h3⟩, fun f hf => by rcases List.mem_append.1 hf with h | h; simp [h]; simp [h4 f h]⟩
theorem Rd.take {α : Type} {E : World → Nat → Nat → α → List Nat → Prop} {n : Nat} {w : World} {B : Nat} {a : Option Addr} {cap : Nat} {l : List α} (h : Rd E n w B a cap l) (i : Nat) : Rd E n w B a cap (l.take i) := by
 obtain ⟨F, ⟨h1, h2, h3, h4⟩, hF⟩ := h
 by_cases hl : l.take i = []
 ·rw [hl]; exact ⟨[], Sl.nil _ _ _ h2, by simp⟩
 ·obtain ⟨b, o, F', ha, rfl, hr⟩ := h4 (by rintro rfl; simp at hl)
  obtain ⟨G, hg, hm⟩ := Row.take l i hr
  exact ⟨b :: G, ⟨by rw [List.length_take]; omega, h2, fun h => absurd h hl, fun _ => ⟨b, o, G, ha, rfl, hg⟩⟩, fun f hf => by
   rcases List.mem_cons.1 hf with rfl | hf
   ·exact hF f (by simp)
   ·exact hF f (by simp [hm f hf])⟩
theorem R.take {w : World} {B : Nat} {a : Option Addr} {cap : Nat} {l : List T} (h : R w B a cap l) (i : Nat) : R w B a cap (l.take i) := R.rd.2 ((R.rd.1 h).take i)
theorem AppL.read {α : Type} {E : World → Nat → Nat → α → List Nat → Prop} {n : Nat} {e : TypeId} {w : World} {rlo cap : Nat} {a : Option Addr} {l : List α} {F : List Nat} (h : AppL E n e w rlo a cap l F) (hlo : rlo ≤ w.heap.size) : Rd E n w w.heap.size a cap l := by
 rcases h with ⟨rfl, rfl, rfl, rfl⟩ | ⟨g, cur, rfl, h1, h3, h4, h5, h6, h7, h8⟩
 ·exact Rd.nil _ _
 ·have hg : g < w.heap.size := (Array.getElem?_eq_some_iff.1 h3).1
  by_cases hl : l = []
  ·subst hl; exact ⟨[], Sl.nil _ _ _ h5, by simp⟩
  ·exact ⟨g :: F, ⟨h4, h5, fun h => absurd h hl, fun _ => ⟨g, 0, F, rfl, rfl, h7⟩⟩, fun f hf => by
    rcases List.mem_cons.1 hf with rfl | hf
    ·exact hg
    ·have := h8 f hf; omega⟩
set_option maxHeartbeats 2000000 in
theorem impl_names (t : T) (a : Option Addr) (cap B : Nat) (w : World) (hr : R w B a cap t.l) (hB : B ≤ w.heap.size) (hlc : t.l.length ≤ 1073741824) :
  Calls Tryz.prog 68 #[.agg (cV t a cap)] w fun e w' => ∃ a' cap', e = .returned (.slice a' (namesT t).length cap') ∧ R w' w'.heap.size a' cap' (namesT t) ∧ Below w.heap.size w w' := by
 obtain ⟨k, n, x, s, l⟩ := t
 simp only [cV, T.k, T.n, T.x, T.s, T.l] at *
 obtain ⟨hl1, hl2⟩ := hr.len
 by_cases hk : k = 10
 ·subst hk
  have HNm := Lib.hid (show namesT (.mk 10 n x s l) = evN l ((l.length + 1) / 2) from if_pos rfl)
  have HR := Lib.hid hr; clear hr
  obtain ⟨rlo, hrlo⟩ : ∃ r, r = w.heap.size + 1 := ⟨_, rfl⟩
  have h0 := AppL.empty (E := TV) (n := 5) (e := 26) (w.alloc (Obj.cells #[Value.int IntKind.i64 10, Value.int IntKind.i64 n, Value.int IntKind.i64 x, Value.string s, Value.slice a l.length cap] 26)) rlo (by rw [hrlo]; simp)
  simp only [size_alloc] at h0
  go_enter Tryz.func68, Tryz.ntmps68
  go_wp2_with fail
  generalize hW : (w.alloc (Obj.cells #[Value.int IntKind.i64 10, Value.int IntKind.i64 n, Value.int IntKind.i64 x, Value.string s, Value.slice a l.length cap] 26)).alloc (Obj.cells #[] 26) = W0 at *
  have q1 : Is W0 w.heap.size 26 #[Value.int IntKind.i64 10, Value.int IntKind.i64 n, Value.int IntKind.i64 x, Value.string s, Value.slice a l.length cap] := by subst hW; exact (Is.new _ _ _).alloc _
  have H0 := Lib.hid (show Below w.heap.size w W0 from by subst hW; exact below2 _ _ _)
  have hs0 : W0.heap.size = w.heap.size + 2 := by subst hW; simp
  clear hW
  have lr : w.heap.size < rlo := by omega
  have hrl3 : rlo ≤ W0.heap.size := by omega
  have hBr : B ≤ rlo := by omega
  have hwr : w.heap.size ≤ rlo := by omega
  clear hrlo
  go_loopw [3, 4] (fun q iv wr => ∃ (i p : Nat) (ar : Option Addr) (cr : Nat) (F : List Nat), i ≤ l.length + 1 ∧ iv = .int .i64 i ∧ Hid (i = 2 * p) ∧ q = .slice ar (evN l p).length cr ∧ AppL TV 5 26 wr rlo ar cr (evN l p) F ∧ Below rlo W0 wr) (fun _ iv _ => l.length + 2 - (intOf iv).toNat)
  case atStart => exact ⟨0, 0, _, _, [], by omega, rfl, rfl, rfl, h0, Below.refl _ _⟩
  case round =>
   obtain ⟨i, p, ar, cr, F, hi', rfl, HI, rfl, happ, hb⟩ := hrel
   have hbs := hb.size
   have hbox := q1.below hb lr
   obtain ⟨x0, x1, x2, x3, x4⟩ := hbox.cells5
   have lbox : w.heap.size < wr.heap.size := by omega
   have HBw := Lib.hid (H0.out.trans (hb.mono hwr))
   have hlen := evN_len l p
   have HA := Lib.hid happ; clear happ
   by_cases hlt : i < l.length
   ·obtain ⟨b, o, a2, cap2, ha, hbl, d0, d1, d2, d3, d4, hwf, hq⟩ := (HR.out.below HBw.out hB).get i hlt
    obtain ⟨b', o', G, ha', hbl', hv, hG⟩ := (R.rd.1 (HR.out.below HBw.out hB)).get i hlt
    have e2 := ha.symm.trans ha'
    injection e2 with e2; injection e2 with e2 e3
    subst e2 e3 ha
    clear ha'
    have hlb : b < wr.heap.size := by omega
    have HS := Lib.hid (evN_succ l p i HI.out hlt)
    have hip : p ≤ 1073741824 := by have := HI.out; omega
    rw [← T.eta l[i], TV.iff] at hv
    obtain ⟨t0, t1, t2, t3, _, _, _, _, a3, cap3, t4, htl⟩ := hv
    have e4 := d4.symm.trans t4
    injection e4 with e4; injection e4 with e4 e5 e6
    subst e4 e6
    clear t0 t1 t2 t3 t4 e5
    have HTV := Lib.hid (TV.box 26 htl hwf (fun f hf => by have := hG f hf; omega))
    have HG := Lib.hid (show ∀ f ∈ G, f < rlo from fun f hf => by have := hG f hf; omega)
    have HN := Lib.hid (HA.out.agree TV.elem (fun f hf => (below1 wr (.cells (cV l[i] a2 cap2) 26)).block f hf) (by omega))
    clear htl hwf hq hG
    go_wp2_with (at_builtin; refine wpList_appL TV.elem rfl _ _ 24 rfl (.agg zV) 64 Tryz.underlying24 info_Val rfl rlo ar cr (evN l p) F (by first | rfl | (rw [hlen]; rfl)) HN.out (by simp; omega) wr.heap.size 0 1 1 [l[i]] G rfl rfl ⟨G, [], by simp, HTV.out, rfl⟩ HG.out (by omega) (by rw [hlen]; unfold maxLen; omega) (by rw [hlen]; omega) ?_; intro ar2 cr2 w3 happ3 hb3)
    go_roundw
    case rel => exact ⟨i + 2, p + 1, ar2, cr2, F ++ G, by omega, by go_num, by have := HI.out; show _ = _; omega, by rw [HS.out, List.length_append, hlen]; rfl, by rw [HS.out]; exact happ3, (hb.trans ((below1 wr _).mono (by omega))).trans hb3⟩
    case measure => simp [intOf]; omega
   ·have hp : p = (l.length + 1) / 2 := by have := HI.out; omega
    have HP := Lib.hid hp; clear hp
    go_wp2_with fail
    go_ret
    refine ⟨ar, cr, by rw [HNm.out, ← HP.out]; rfl, by rw [HNm.out, ← HP.out]; exact R.rd.2 (HA.out.read (by omega)), HBw.out⟩
 ·have HNm := Lib.hid (show namesT (.mk k n x s l) = [] from if_neg hk)
  have hk2 : (k == 10) = false := by simpa using hk
  have hk3 : (k != 10) = true := by simpa using hk
  go_enter Tryz.func68, Tryz.ntmps68
  go_wp2_with fail
  go_ret
  exact ⟨_, _, by rw [HNm.out]; rfl, by rw [HNm.out]; exact R.rd.2 ⟨[], Sl.nil _ _ _ (by unfold maxLen; omega), by simp⟩, below2 _ _ _⟩
def byteL (s : ByteArray) : List Int := s.data.toList.map fun b => (b.toNat : Int)
theorem byteL_len (s : ByteArray) : (byteL s).length = s.size := by unfold byteL; rw [List.length_map, ← Lib.size_eq]
theorem byteL_append (a b : ByteArray) : byteL (a ++ b) = byteL a ++ byteL b := by unfold byteL; simp [ByteArray.data_append]
theorem byteL_str (s : ByteArray) : strOfNums (byteL s) = s := by
 unfold strOfNums byteL
 apply ByteArray.ext; apply Array.ext'
 simp only [List.map_map]
 exact (List.map_congr_left (fun b _ => by simp)).trans (List.map_id _)
theorem byteL_u8 (s : ByteArray) : ∀ x ∈ byteL s, U8 x := by
 intro x hx
 obtain ⟨b, _, rfl⟩ := List.mem_map.1 hx
 have := b.toNat_lt
 exact ⟨by omega, by omega⟩
theorem byteL_cells (s : ByteArray) : (byteL s).map (Value.int .u8) = Lib.strCells s := by unfold byteL Lib.strCells; rw [List.map_map]; rfl
theorem row_bytes {w : World} {g : Nat} : ∀ (l : List Int) (o : Nat), (∀ x ∈ l, U8 x) → (∀ i (h : i < l.length), w.cell? ⟨g, o + i, none⟩ = some (.int .u8 l[i])) → Row EByte 1 w g o l [] := by
 intro l
 induction l with
 | nil => intro o _ _; rfl
 | cons x r ih =>
  intro o hu hc
  refine ⟨[], [], rfl, ⟨rfl, by have := hc 0 (by simp); simpa using this, hu x (by simp)⟩, ih (o + 1) (fun y hy => hu y (by simp [hy])) (fun i h => ?_)⟩
  have := hc (i + 1) (by simp; omega)
  rw [show o + 1 + i = o + (i + 1) from by omega]
  simpa using this
theorem appL_bytes {w : World} {base : Nat} {e : TypeId} {v : Value} {n : Nat} {l : List Int} (hu : ∀ x ∈ l, U8 x) (hn : n = l.length) (h : w.ownsRow base e 1 v n (l.map (Value.int .u8))) : ∃ a cap, v = .slice a l.length cap ∧ AppL EByte 1 e w base a cap l [] := by
 subst hn
 obtain ⟨h0, ⟨rfl, hz⟩ | ⟨g, cap, cur, rfl, h1, h2, h3, h4, h5, h6⟩⟩ := h
 ·have : l = [] := List.eq_nil_of_length_eq_zero hz
  subst this
  exact ⟨none, 0, rfl, Or.inl ⟨rfl, rfl, rfl, rfl⟩⟩
 ·refine ⟨some ⟨g, 0, none⟩, cap, rfl, Or.inr ⟨g, cur, rfl, h1, h2, h3, h4, h5, row_bytes l 0 hu (fun i hi => ?_), by simp⟩⟩
  have e1 : (cur.toList.take (l.length * 1))[i]? = some (.int .u8 l[i]) := by rw [h6]; simp [hi]
  rw [List.getElem?_take, if_pos (by omega)] at e1
  rw [Nat.zero_add]
  simp [World.cell?, h2]
  simpa using e1
theorem wpList_appStr {P : Program} {w : World} {ops : Array Oper} {rest : List Oper} {o : Oper} {act : Act} {Q : Exit → Act → World → Prop} {e : TypeId} (hgd : o.guard = none) (sl x : Operand) (t u : TypeId)
  (ho : o.op = .call { callee := .builtin .append, args := #[sl, x], argTypes := #[t, u] }) (ht : P.underlying t = some (.slice e)) (hu : P.underlying u = some .string) (hinfo : (P.info? e).map (fun i => (i.zero, i.size, i.bytes)) = some (some (.int .u8 0), 1, 1))
  (rlo : Nat) (a : Option Addr) (cap : Nat) (l : List Int) (hl : ∀ x ∈ l, U8 x) (hs : act.eval sl = .slice a l.length cap) (happ : AppL EByte 1 e w rlo a cap l []) (hlo : rlo ≤ w.heap.size) (s : ByteArray) (hx : act.eval x = .string s)
  (hbytes : l.length + s.size ≤ 140737488355328)
  (h : ∀ a' cap' w', AppL EByte 1 e w' rlo a' cap' (l ++ byteL s) [] → Below rlo w w' → (∀ f, f < w.heap.size → (∀ k, (Value.slice a l.length cap).ownBlock = some k → f ≠ k) → w'.heap[f]? = w.heap[f]?) → w.heap.size ≤ w'.heap.size → wpList P ops Q rest (act.put o.dst (.slice a' (l ++ byteL s).length cap')) w') : wpList P ops Q (o :: rest) act w := by
 obtain ⟨i, hi', hz0, hz1, hz2⟩ := info_parts hinfo
 obtain ⟨xs, q1, q2, q3⟩ := happ.owns
 have hxs : xs = l.map (Value.int .u8) := by
  rcases happ with ⟨rfl, rfl, rfl, _⟩ | ⟨g, cur, rfl, h1, h3, h4, h5, h6, h7, h8⟩
  ·exact List.eq_nil_of_length_eq_zero (by simpa using q2)
  ·apply List.ext_getElem?
   intro j
   by_cases hj : j < l.length
   ·obtain ⟨F', hv, _⟩ := h7.get j hj
    have := q3 g rfl j (by omega)
    rw [← this]
    have hv2 := hv.2.1
    rw [Nat.mul_one] at hv2
    rw [hv2]; simp [hj]
   ·rw [List.getElem?_eq_none (by omega), List.getElem?_eq_none (by simp; omega)]
 subst hxs
 refine Lib.wpList_append_own_string w hgd sl x t u ho rlo e i ht hu hi' hz0 hz1 hz2 (.slice a l.length cap) l.length (l.map (Value.int .u8)) hs q1 s hx (by unfold maxLen; omega) hbytes hlo (fun v' w' hown hgr _ => ?_)
 rw [← byteL_cells, ← List.map_append] at hown
 obtain ⟨a', cap', rfl, happ'⟩ := appL_bytes (fun x hx => by rcases List.mem_append.1 hx with h | h; exact hl x h; exact byteL_u8 s x h) (by rw [List.length_append, byteL_len]) hown
 have hlow : ∀ k, (Value.slice a l.length cap).ownBlock = some k → rlo ≤ k := fun k hk => (by
  rcases happ with ⟨rfl, rfl, rfl, _⟩ | ⟨g, cur, rfl, k1, _⟩
  ·simp [Value.ownBlock] at hk
  ·simp only [Value.ownBlock, Option.some.injEq] at hk; omega)
 exact h a' cap' w' happ' ⟨hgr.os, hgr.tape, hgr.output, hgr.size, fun f hf => hgr.block f (by omega) (fun e => by have := hlow f e.symm; omega)⟩ (fun f hf hne => hgr.block f hf (fun e => hne f e.symm rfl)) hgr.size
def fitW (n w : Int) : Prop := 0 ≤ n ∧ ((w = 1 ∧ n < 256) ∨ (w = 2 ∧ n < 65536) ∨ (w = 4 ∧ n < 4294967296) ∨ w = 8)
instance (n w : Int) : Decidable (fitW n w) := by unfold fitW; infer_instance
def bigL (n : Int) : Nat → List Int
 | 0 => []
 | w + 1 => (n / 256 ^ w) % 256 :: bigL n w
theorem bigL_len (n : Int) : ∀ w : Nat, (bigL n w).length = w
 | 0 => rfl
 | w + 1 => by rw [bigL, List.length_cons, bigL_len n w]
theorem bigL_u8 (n : Int) : ∀ w : Nat, ∀ x ∈ bigL n w, U8 x
 | 0, x, h => by cases h
 | w + 1, x, h => by
  rw [bigL] at h
  rcases List.mem_cons.1 h with rfl | h
  ·unfold U8; omega
  ·exact bigL_u8 n w x h
def widthD (n : Int) : Int := if n < 0 then 0 else if n < 256 then 1 else if n < 65536 then 2 else if n < 4294967296 then 4 else 8
theorem widthD_fit (n w : Int) (hn : 0 ≤ n) (hw : w = 1 ∨ w = 2 ∨ w = 4 ∨ w = 8) : fitW n w ↔ widthD n ≤ w := by
 unfold fitW widthD
 rw [if_neg (by omega)]
 by_cases h1 : n < 256
 ·rw [if_pos h1]; omega
 ·rw [if_neg h1]
  by_cases h2 : n < 65536
  ·rw [if_pos h2]; omega
  ·rw [if_neg h2]
   by_cases h3 : n < 4294967296
   ·rw [if_pos h3]; omega
   ·rw [if_neg h3]; omega
def headOk (maj n wide : Int) : Prop := (0 ≤ maj ∧ maj ≤ 7) ∧ (0 ≤ n ∧ n ≤ 1000000000000000) ∧ ((wide = 0 ∧ n ≤ 23) ∨ ((wide = 1 ∨ wide = 2 ∨ wide = 4 ∨ wide = 8) ∧ widthD n ≤ wide) ∨ (wide = -1 ∧ n = 0 ∧ maj ≠ 0 ∧ maj ≠ 1 ∧ maj ≠ 6))
instance (a b c : Int) : Decidable (headOk a b c) := by unfold headOk; infer_instance
def headForD (maj n : Int) : Int × Int × Int := if headOk maj n (if 23 < n then widthD n else 0) then (maj, n, if 23 < n then widthD n else 0) else (0, 0, 0)
def infoD (n wide : Int) : Int := if wide = 0 then n else if wide = 1 then 24 else if wide = 2 then 25 else if wide = 4 then 26 else if wide = 8 then 27 else 31
def headL (maj n wide : Int) : List Int := if headOk maj n wide then (32 * maj + infoD n wide) :: bigL n wide.toNat else []
theorem infoD_in {maj n wide : Int} (h : headOk maj n wide) : 0 ≤ infoD n wide ∧ infoD n wide ≤ 31 := by
 obtain ⟨_, h2, h3⟩ := h
 unfold infoD
 split
 ·omega
 split
 ·omega
 split
 ·omega
 split
 ·omega
 split <;> omega
theorem headL_len (maj n wide : Int) : (headL maj n wide).length ≤ 9 := by
 unfold headL
 split
 ·rename_i h
  rw [List.length_cons, bigL_len]
  obtain ⟨_, _, h3⟩ := h
  omega
 ·simp
theorem headL_u8 (maj n wide : Int) : ∀ x ∈ headL maj n wide, U8 x := by
 intro x hx
 unfold headL at hx
 split at hx
 ·rename_i h
  rcases List.mem_cons.1 hx with rfl | hx
  ·have := infoD_in h; obtain ⟨h1, _⟩ := h; unfold U8; omega
  ·exact bigL_u8 _ _ x hx
 ·cases hx
theorem headOk_fit {maj n wide : Int} (h : headOk maj n wide) (hw : 0 < wide) : fitW n wide := by
 obtain ⟨h1, h2, h3⟩ := h
 exact (widthD_fit n wide h2.1 (by omega)).2 (by omega)
def hdL (maj n : Int) : List Int := headL (headForD maj n).1 (headForD maj n).2.1 (headForD maj n).2.2
theorem hdL_u8 (maj n : Int) : ∀ x ∈ hdL maj n, U8 x := headL_u8 _ _ _
theorem hdL_len (maj n : Int) : (hdL maj n).length ≤ 9 := headL_len _ _ _
theorem widthD_in (n : Int) (h : 0 ≤ n) : widthD n = 1 ∨ widthD n = 2 ∨ widthD n = 4 ∨ widthD n = 8 := by
 unfold widthD
 rw [if_neg (by omega)]
 split
 ·omega
 split
 ·omega
 split <;> omega
theorem headFor_ok {maj n : Int} (h1 : 0 ≤ maj ∧ maj ≤ 7) (h2 : 0 ≤ n ∧ n ≤ 1000000000000000) : headOk maj n (if 23 < n then widthD n else 0) := by
 have := widthD_in n h2.1
 refine ⟨h1, h2, ?_⟩
 by_cases h : 23 < n
 ·rw [if_pos h]; exact Or.inr (Or.inl ⟨this, Int.le_refl _⟩)
 ·rw [if_neg h]; exact Or.inl ⟨rfl, by omega⟩
theorem headForD_ok {maj n : Int} (h1 : 0 ≤ maj ∧ maj ≤ 7) (h2 : 0 ≤ n ∧ n ≤ 1000000000000000) : headForD maj n = (maj, n, if 23 < n then widthD n else 0) := if_pos (headFor_ok h1 h2)
def fltBitsD (m e : Int) : Int := if fltOk m e then 65536 * (e + 16) + m.natAbs + (if m < 0 then 16777216 else 0) else -1
theorem fltBitsD_in (m e : Int) : fltBitsD m e = -1 ∨ (0 ≤ fltBitsD m e ∧ fltBitsD m e ≤ 33554431) := by
 unfold fltBitsD
 split
 ·rename_i h
  refine Or.inr ?_
  rcases h with ⟨rfl, rfl⟩ | ⟨h1, h2, h3, h4, h5⟩
  ·simp
  ·split <;> omega
 ·exact Or.inl rfl
mutual
def packT : T → List Int
 | .mk k n x s l =>
  if k = 1 then headL 7 22 0 else if k = 2 then headL 7 (if n = 1 then 21 else 20) 0
  else if k = 3 then (if -1000000000000000 ≤ n ∧ n ≤ 1000000000000000 then (if n < 0 then hdL 1 (-1 - n) else hdL 0 n) else [])
  else if k = 4 then headL 7 (fltBitsD n x) 4
  else if k = 5 then (if 0 ≤ n ∧ n ≤ 2 then headL 7 (32 + n) 1 else [])
  else if k = 7 then hdL 3 s.size ++ byteL s
  else if k = 8 then hdL 2 s.size ++ byteL s
  else if k = 9 then hdL 4 l.length ++ packTs l
  else if k = 10 then hdL 5 ((l.length / 2 : Nat) : Int) ++ packTs l
  else if k = 11 then (if 0 ≤ n ∧ n ≤ 1000000000000000 then hdL 6 n ++ packTs l else [])
  else []
def packTs : List T → List Int
 | [] => []
 | t :: r => packT t ++ packTs r
end
theorem packTs_append (a b : List T) : packTs (a ++ b) = packTs a ++ packTs b := by
 induction a with
 | nil => rfl
 | cons t r ih => rw [List.cons_append, packTs, packTs, ih, List.append_assoc]
theorem packTs_succ (l : List T) (j : Nat) (h : j < l.length) : packTs (l.take (j + 1)) = packTs (l.take j) ++ packT l[j] := by
 rw [take_snoc l j h, packTs_append]; simp [packTs]
theorem packT_u8 : ∀ t : T, ∀ x ∈ packT t, U8 x := by
  apply T.ind
  intro k n x s l ih y hy
  have hl : ∀ r : List T, (∀ t ∈ r, t ∈ l) → ∀ y ∈ packTs r, U8 y := by
    intro r
    induction r with
    | nil => intro _ y hy; cases hy
    | cons t r ihr =>
      intro hm y hy
      rw [packTs] at hy
      rcases List.mem_append.1 hy with hy | hy
      · exact ih t (hm t (List.mem_cons_self ..)) y hy
      · exact ihr (fun u hu => hm u (List.mem_cons_of_mem _ hu)) y hy
  have hl2 := hl l (fun _ h => h)
  rw [packT] at hy
  repeat' split at hy
  all_goals first
    | exact headL_u8 _ _ _ y hy
    | exact hdL_u8 _ _ y hy
    | (rcases List.mem_append.1 hy with hy | hy
       · exact hdL_u8 _ _ y hy
       · first | exact byteL_u8 _ y hy | exact hl2 y hy)
    | (cases hy)
theorem packT_len : ∀ t : T, (packT t).length ≤ 9 + 10 * T.sz t := by
 apply T.ind
 intro k n x s l ih
 have hl : ∀ r : List T, (∀ t ∈ r, t ∈ l) → (packTs r).length ≤ 10 * T.szL r := by
  intro r
  induction r with
  | nil => intro _; simp [packTs]
  | cons t r ihr =>
   intro hm
   have h1 := ih t (hm t (List.mem_cons_self ..))
   have h2 := ihr (fun u hu => hm u (List.mem_cons_of_mem _ hu))
   rw [packTs, List.length_append]; simp only [T.szL]; omega
 have hl2 := hl l (fun _ h => h)
 have hb := byteL_len s
 rw [packT]
 simp only [T.sz]
 repeat' split
 all_goals first
  | (have := headL_len 7 22 0; omega)
  | (have := headL_len 7 21 0; omega)
  | (have := headL_len 7 20 0; omega)
  | (have := headL_len 7 (fltBitsD n x) 4; omega)
  | (have := headL_len 7 (32 + n) 1; omega)
  | (have := hdL_len 1 (-1 - n); omega)
  | (have := hdL_len 0 n; omega)
  | (rw [List.length_append]; have := hdL_len 3 (s.size : Int); omega)
  | (rw [List.length_append]; have := hdL_len 2 (s.size : Int); omega)
  | (rw [List.length_append]; have := hdL_len 4 (l.length : Int); omega)
  | (rw [List.length_append]; have := hdL_len 5 ((l.length / 2 : Nat) : Int); omega)
  | (rw [List.length_append]; have := hdL_len 6 n; omega)
  | simp
theorem packTs_len (l : List T) : (packTs l).length ≤ 10 * T.szL l := by
 induction l with
 | nil => simp [packTs]
 | cons t r ih => rw [packTs, List.length_append]; simp only [T.szL]; have := packT_len t; omega
def lexB : List Int → List Int → Bool
 | _, [] => false
 | [], _ :: _ => true
 | a :: x, b :: y => if a = b then lexB x y else decide (a < b)
section
variable {α : Type} {E : World → Nat → Nat → α → List Nat → Prop} {n : Nat} {e : TypeId} {nd : Prop}
def Srcs (E : World → Nat → Nat → α → List Nat → Prop) (n : Nat) (w : World) (a : Option Addr) (ys : List α) (G : List Nat) : Prop :=
 (ys = [] → G = []) ∧ (ys ≠ [] → ∃ b o, a = some ⟨b, o, none⟩ ∧ Row E n w b o ys G)
theorem Srcs.agree (hE : Elem E n) {w w' : World} {a : Option Addr} {ys : List α} {G : List Nat} (h : Srcs E n w a ys G) (hb : ∀ b o, a = some ⟨b, o, none⟩ → ys ≠ [] → w'.heap[b]? = w.heap[b]?) (hG : Agree w w' G) : Srcs E n w' a ys G := by
 refine ⟨h.1, fun hne => ?_⟩
 obtain ⟨b, o, ha, hr⟩ := h.2 hne
 exact ⟨b, o, ha, hr.agree hE.loc ys (Cells.of_block (hb b o ha hne) _ _) hG⟩
theorem Srcs.one {w : World} {b o : Nat} {y : α} {G : List Nat} (h : E w b o y G) : Srcs E n w (some ⟨b, o, none⟩) [y] G :=
 ⟨fun h => absurd h (by simp), fun _ => ⟨b, o, rfl, G, [], by simp, h, rfl⟩⟩
theorem run_append_zero {P : Program} (w : World) (t ty e : TypeId) (i : TypeInfo) (ht : P.underlying t = some (.slice e)) (hi : P.info? e = some i) (a a2 : Option Addr) (k cap c2 : Nat) (hk : k ≤ cap) :
  (Builtin.append_ #[t, t] ty #[.slice a k cap, .slice a2 0 c2]).run P w = .ok (.slice a k cap) w := by
 cases a2 with
 | none => exact run_append_nothing w t t ty e i ht hi a k cap hk _ (Src.ofNil w ht c2)
 | some ad => exact run_append_nothing w t t ty e i ht hi a k cap hk _ (Src.ofSlice w ht ad 0 c2 [] (by simp) (by simp) (by simp))
theorem run_appL {P : Program} (w : World) (hE : Elem E n) (t ty : TypeId) (z : Value) (bytes : Nat) (ht : P.underlying t = some (.slice e)) (hinfo : (P.info? e).map (fun i => (i.zero, i.size, i.bytes)) = some (some z, n, bytes)) (hzs : z.cells.size = n)
  (rlo : Nat) (a : Option Addr) (cap : Nat) (l : List α) (F : List Nat) (happ : AppL E n e w rlo a cap l F) (hlo : rlo ≤ w.heap.size) (hcap : l.length ≤ cap)
  (a2 : Option Addr) (c2 : Nat) (ys : List α) (G : List Nat) (hys : Srcs E n w a2 ys G) (hG : ∀ f ∈ G, f < rlo) (h63 : l.length + ys.length ≤ maxLen) (hbytes : (l.length + ys.length) * bytes ≤ 140737488355328) :
  ∃ a' cap' w', (Builtin.append_ #[t, t] ty #[.slice a l.length cap, .slice a2 ys.length c2]).run P w = .ok (.slice a' (l ++ ys).length cap') w' ∧ AppL E n e w' rlo a' cap' (l ++ ys) (F ++ G) ∧ Below rlo w w' ∧
   (∀ f, f < w.heap.size → (∀ k, (Value.slice a l.length cap).ownBlock = some k → f ≠ k) → w'.heap[f]? = w.heap[f]?) ∧ (∀ k, (Value.slice a' (l ++ ys).length cap').ownBlock = some k → (Value.slice a l.length cap).ownBlock = some k ∨ k = w.heap.size) ∧ w.heap.size ≤ w'.heap.size := by
 obtain ⟨i, hi', hz0, hz1, hz2⟩ := info_parts hinfo
 by_cases hne : ys = []
 ·subst hne
  rw [hys.1 rfl]
  simp only [List.append_nil]
  exact ⟨a, cap, w, run_append_zero w t ty e i ht hi' a a2 l.length cap c2 hcap, happ, Below.refl _ _, fun _ _ _ => rfl, fun k hk => Or.inl hk, Nat.le_refl _⟩
 ·obtain ⟨b, off, rfl, hrow⟩ := hys.2 hne
  obtain ⟨xs, q1, q2, q3⟩ := happ.owns
  obtain ⟨news, n1, n2, n3⟩ := cells_list (hrow.cel hE ys)
  have hpos : 0 < ys.length := List.length_pos_iff.2 hne
  obtain ⟨g', cap', w', hr, hown, hgr, hat, hlt⟩ := run_append_lies (P := P) w t ty rlo e i z n bytes ht hi' hz0 hz1 hz2 hzs hE.pos (.slice a l.length cap) l.length xs q1 ⟨b, off, none⟩ ys.length c2 news n1 (fun j u hj => by
   have hj2 : j < ys.length * n := by
    rcases Nat.lt_or_ge j (ys.length * n) with h | h
    ·exact h
    ·rw [List.getElem?_eq_none (by omega)] at hj; cases hj
   rw [← hj, ← n2 j hj2, Addr.add_lit]) n3 hpos h63 hbytes hlo w.heap.size rfl
  obtain ⟨r1, r2⟩ := AppL.grown hE happ hrow hG hlo n1 n2 q3 q2 hown hgr
  rw [List.length_append]
  exact ⟨_, cap', w', hr, r1, r2, fun f hf hne => hgr.block f hf (fun e => hne f e.symm rfl), fun k hk => by
   have hk' : k = g' := by
    simp only [Value.ownBlock] at hk
    first | exact (Option.some.inj hk).symm | (split at hk <;> simp_all)
   subst hk'; exact hat, hgr.size⟩
theorem run_app {P : Program} (w : World) (hE : Elem E n) (t ty : TypeId) (z : Value) (bytes : Nat) (ht : P.underlying t = some (.slice e)) (hinfo : (P.info? e).map (fun i => (i.zero, i.size, i.bytes)) = some (some z, n, bytes)) (hzs : z.cells.size = n)
  (lo hi : Nat) (a : Option Addr) (cap : Nat) (l : List α) (happ : App E n e nd w lo hi a cap l) (hhi : hi ≤ w.heap.size) (hlo : lo ≤ hi)
  (a2 : Option Addr) (c2 : Nat) (ys : List α) (G : List Nat) (hys : Srcs E n w a2 ys G) (hG : G.Nodup) (hG2 : ∀ f ∈ G, hi ≤ f ∧ f < w.heap.size ∧ Unf w f) (h63 : l.length + ys.length ≤ maxLen) (hbytes : (l.length + ys.length) * bytes ≤ 140737488355328) :
  ∃ a' cap' w', (Builtin.append_ #[t, t] ty #[.slice a l.length cap, .slice a2 ys.length c2]).run P w = .ok (.slice a' (l ++ ys).length cap') w' ∧ App E n e nd w' lo w'.heap.size a' cap' (l ++ ys) ∧ Below lo w w' ∧
   (∀ f, f < w.heap.size → (∀ k, (Value.slice a l.length cap).ownBlock = some k → f ≠ k) → w'.heap[f]? = w.heap[f]?) ∧ w.heap.size ≤ w'.heap.size := by
 obtain ⟨i, hi', hz0, hz1, hz2⟩ := info_parts hinfo
 have hcap := happ.len.1
 by_cases hne : ys = []
 ·subst hne
  simp only [List.append_nil]
  exact ⟨a, cap, w, run_append_zero w t ty e i ht hi' a a2 l.length cap c2 hcap, happ.more (Nat.le_refl _) hhi, Below.refl _ _, fun _ _ _ => rfl, Nat.le_refl _⟩
 ·obtain ⟨b, off, rfl, hrow⟩ := hys.2 hne
  obtain ⟨xs, q1, q2, q3⟩ := happ.owns hE
  obtain ⟨news, n1, n2, n3⟩ := cells_list (hrow.cel hE ys)
  have hpos : 0 < ys.length := List.length_pos_iff.2 hne
  obtain ⟨g', cap', w', hr, hown, hgr, hat, hlt⟩ := run_append_lies (P := P) w t ty lo e i z n bytes ht hi' hz0 hz1 hz2 hzs hE.pos (.slice a l.length cap) l.length xs q1 ⟨b, off, none⟩ ys.length c2 news n1 (fun j u hj => by
   have hj2 : j < ys.length * n := by
    rcases Nat.lt_or_ge j (ys.length * n) with h | h
    ·exact h
    ·rw [List.getElem?_eq_none (by omega)] at hj; cases hj
   rw [← hj, ← n2 j hj2, Addr.add_lit]) n3 hpos h63 hbytes (by omega) w.heap.size rfl
  obtain ⟨r1, r2, r3⟩ := App.grown hE happ hhi hrow (fun _ => hG) (fun f hf => ⟨Nat.le_trans hlo (hG2 f hf).1, (hG2 f hf).2.1, (hG2 f hf).2.2, fun k hk => by have := (happ.row k hk).2; have := (hG2 f hf).1; omega⟩) (fun _ f hf => (hG2 f hf).1) n1 n2 q3 q2 hown hgr hat hlt
  rw [List.length_append]
  exact ⟨_, cap', w', hr, r1, r2 (by omega), r3, hgr.size⟩
def Flat (E : World → Nat → Nat → α → List Nat → Prop) : Prop := ∀ (x : α) (w : World) (b o : Nat) (F : List Nat), E w b o x F → F = []
theorem Row.flat (hf : Flat E) {w : World} {b : Nat} : ∀ (l : List α) (o : Nat) (F : List Nat), Row E n w b o l F → F = [] := by
 intro l
 induction l with
 | nil => intro o F h; exact h
 | cons x r ih =>
  intro o F h
  obtain ⟨F1, F2, rfl, h1, h2⟩ := h
  rw [hf x w b o F1 h1, ih _ _ h2]; rfl
theorem Rd.srcs (hf : Flat E) {w : World} {B cap : Nat} {a : Option Addr} {l : List α} (h : Rd E n w B a cap l) : Srcs E n w a l [] := by
 obtain ⟨F, ⟨h1, h2, h3, h4⟩, hF⟩ := h
 refine ⟨fun _ => rfl, fun hne => ?_⟩
 obtain ⟨b, o, F', ha, rfl, hr⟩ := h4 hne
 exact ⟨b, o, ha, by have := hr.flat hf; subst this; exact hr⟩
theorem AppL.cap {w : World} {rlo cap : Nat} {a : Option Addr} {l : List α} {F : List Nat} (h : AppL E n e w rlo a cap l F) : l.length ≤ cap ∧ cap ≤ 9223372036854775807 := by
 rcases h with ⟨_, rfl, rfl, _⟩ | ⟨g, cur, ha, h1, h3, h4, h5, _⟩
 ·simp
 ·unfold maxLen at h5; exact ⟨h4, by omega⟩
theorem AppL.rd {w : World} {rlo cap : Nat} {a : Option Addr} {l : List α} {F : List Nat} (h : AppL E n e w rlo a cap l F) (hlo : rlo ≤ w.heap.size) : Rd E n w w.heap.size a cap l := by
 rcases h with ⟨rfl, rfl, rfl, rfl⟩ | ⟨g, cur, rfl, h1, h3, h4, h5, h6, h7, h8⟩
 ·exact Rd.nil _ _
 ·have hg : g < w.heap.size := (Array.getElem?_eq_some_iff.1 h3).1
  by_cases hl : l = []
  ·subst hl; exact ⟨[], Sl.nil _ _ _ h5, by simp⟩
  ·exact ⟨g :: F, ⟨h4, h5, fun h => absurd h hl, fun _ => ⟨g, 0, F, rfl, rfl, h7⟩⟩, fun f hf => by
    rcases List.mem_cons.1 hf with rfl | hf
    ·exact hg
    ·have := h8 f hf; omega⟩
theorem AppL.some {w : World} {rlo cap : Nat} {a : Option Addr} {l : List α} {F : List Nat} (h : AppL E n e w rlo a cap l F) (hl : l ≠ []) : ∃ g, a = .some ⟨g, 0, none⟩ := by
 rcases h with h | ⟨g, _, h, _⟩
 ·exact absurd h.2.2.1 hl
 ·exact ⟨g, h⟩
theorem step_append_run {P : Program} (w : World) {ops : Array Oper} {o : Oper} {a : Act} {K : Act → World → Prop} {Q : Exit → Act → World → Prop} {X : Prop} (hgd : o.guard = none) (s x : Operand) (t tn : TypeId)
  (ho : o.op = .call { callee := .builtin .append, args := #[s, x], argTypes := #[t, tn] }) (vs vx : Value) (hs : a.eval s = vs) (hx : a.eval x = vx)
  (v' : Value) (w' : World) (hr : (Builtin.append_ #[t, tn] o.type #[vs, vx]).run P w = .ok v' w') (h : K (a.put o.dst v') w') : if Region.wanted o (yielded ops a.tmps) = true then Oper.wp P o a w K Q else X := by
 have hw : Region.wanted o (yielded ops a.tmps) = true := by simp [Region.wanted, hgd]
 rw [if_pos hw]
 exact Lib.wp_append_run w s x t tn ho vs vx hs hx v' w' hr h
end
theorem at_world {P : Program} {ops : Array Oper} {o : Oper} {a : Act} {K : Act → World → Prop} {Q : Exit → Act → World → Prop} {X : Prop} (w : World) (h : if Region.wanted o (yielded ops a.tmps) = true then Oper.wp P o a w K Q else X) : if Region.wanted o (yielded ops a.tmps) = true then Oper.wp P o a w K Q else X := h
theorem EInt.flat : Flat EInt := fun _ _ _ _ _ h => h.1
theorem EByte.flat : Flat EByte := fun _ _ _ _ _ h => h.1
theorem EStep.flat : Flat EStep := fun _ _ _ _ _ h => h.1
section
variable {α : Type} {E : World → Nat → Nat → α → List Nat → Prop} {n : Nat} {e : TypeId}
theorem AppL.row {w : World} {rlo cap : Nat} {a : Option Addr} {l : List α} {F : List Nat} (h : AppL E n e w rlo a cap l F) : ∀ k, (Value.slice a l.length cap).ownBlock = Option.some k → rlo ≤ k ∧ k < w.heap.size := by
 intro k hk
 rcases h with ⟨rfl, rfl, rfl, _⟩ | ⟨g, cur, rfl, k1, h3, _⟩
 ·simp [Value.ownBlock] at hk
 ·simp only [Value.ownBlock, Option.some.injEq] at hk; subst hk; exact ⟨k1, (Array.getElem?_eq_some_iff.1 h3).1⟩
theorem step_appLX {P : Program} {w : World} (hE : Elem E n) {ops : Array Oper} {o : Oper} {act : Act} {K : Act → World → Prop} {Q : Exit → Act → World → Prop} {X : Prop} (hgd : o.guard = none) (s x : Operand) (t : TypeId)
  (ho : o.op = .call { callee := .builtin .append, args := #[s, x], argTypes := #[t, t] }) (z : Value) (bytes : Nat) (ht : P.underlying t = some (.slice e)) (hinfo : (P.info? e).map (fun i => (i.zero, i.size, i.bytes)) = some (some z, n, bytes)) (hzs : z.cells.size = n)
  (rlo : Nat) (a : Option Addr) (cap : Nat) (l : List α) (F : List Nat) (hs : act.eval s = .slice a l.length cap) (happ : AppL E n e w rlo a cap l F) (hlo : rlo ≤ w.heap.size)
  (b off m c : Nat) (ys : List α) (G : List Nat) (hx : act.eval x = .slice (some ⟨b, off, none⟩) m c) (hm : ys.length = m) (hys : Row E n w b off ys G) (hG : ∀ f ∈ G, f < rlo)
  (hpos : 0 < m) (h63 : l.length + m ≤ maxLen) (hbytes : (l.length + m) * bytes ≤ 140737488355328)
  (h : ∀ a' cap' w', AppL E n e w' rlo a' cap' (l ++ ys) (F ++ G) → Below rlo w w' → (∀ f, f < w.heap.size → (∀ k, (Value.slice a l.length cap).ownBlock = some k → f ≠ k) → w'.heap[f]? = w.heap[f]?) → K (act.put o.dst (.slice a' (l ++ ys).length cap')) w') : if Region.wanted o (yielded ops act.tmps) = true then Oper.wp P o act w K Q else X := by
 obtain ⟨i, hi', hz0, hz1, hz2⟩ := info_parts hinfo
 obtain ⟨xs, q1, q2, q3⟩ := happ.owns
 subst hm
 obtain ⟨news, n1, n2, n3⟩ := cells_list (hys.cel hE ys)
 refine step_append_lies w hgd s x t ho rlo e i z n bytes ht hi' hz0 hz1 hz2 hzs hE.pos (.slice a l.length cap) l.length xs hs q1 ⟨b, off, none⟩ ys.length c news hx n1 (fun j u hj => ?_) n3 hpos h63 hbytes hlo w.heap.size rfl (fun g' cap' w' hown hgr hat hlt => ?_)
 ·have hj2 : j < ys.length * n := by
   rcases Nat.lt_or_ge j (ys.length * n) with h | h
   ·exact h
   ·rw [List.getElem?_eq_none (by omega)] at hj; cases hj
  rw [← hj, ← n2 j hj2, Addr.add_lit]
 ·obtain ⟨r1, r2⟩ := AppL.grown hE happ hys hG hlo n1 n2 q3 q2 hown hgr
  have := h _ _ w' r1 r2 (fun f hf hne => hgr.block f hf (fun e => hne f e.symm rfl))
  rwa [List.length_append] at this
end
end Go.Proofs.YtggdenkmohnijaaGreatDoor
