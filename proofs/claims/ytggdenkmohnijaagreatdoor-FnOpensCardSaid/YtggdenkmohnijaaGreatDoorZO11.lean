/- Texts of this proof, merged: Mark2, FitsK, AppT, MarkP, Pack1, MarkB, MarkI, MarkM, PackK, PackI, FitsT, TightP, Less, Tig1. No condition beyond what each theorem states. -/
import Derived.Test.YtggdenkmohnijaaGreatDoorZO10
import Derived.Lib.BitFns
set_option linter.unusedSimpArgs false
set_option linter.unnecessarySimpa false
namespace Go.Proofs.YtggdenkmohnijaaGreatDoor
open Go.ChangeShapes Go.WideShapes Go.ChangeAt Go.RowKit Go.Joins
set_option linter.unusedVariables false
set_option maxRecDepth 100000
def bitsFltD (n : Int) : (Int × Int) × Bool := if 0 ≤ n ∧ n ≤ 33554431 then fltNewD (if 16777216 ≤ n then -(n % 65536) else n % 65536) (n / 65536 % 256 - 16) else ((0, 0), false)
theorem bitsFltD_i64 (n : Int) : I64 (bitsFltD n).1.1 ∧ I64 (bitsFltD n).1.2 := by
 unfold bitsFltD
 split
 ·have h := fltOk_in (fltNewD_ok (if 16777216 ≤ n then -(n % 65536) else n % 65536) (n / 65536 % 256 - 16))
  exact ⟨⟨by omega, by omega⟩, ⟨by omega, by omega⟩⟩
 ·exact ⟨⟨by decide, by decide⟩, ⟨by decide, by decide⟩⟩
set_option maxHeartbeats 4000000 in
theorem impl_BitsFlt (n : Int) (w : World) (hn : I64 n) :
  Calls Tryz.prog 167 #[.int .i64 n] w fun ee w' => ee = .returned (.tuple #[.agg (cF (bitsFltD n).1.1 (bitsFltD n).1.2), .bool (bitsFltD n).2]) ∧ Below w.heap.size w w' := by
 have q0 := Is.new w (cF 0 0) 61
 have ff := fun i => q0.frozen i
 obtain ⟨z0, z1⟩ := q0.cells2
 have lg : w.heap.size < (w.alloc (.cells (cF 0 0) 61)).heap.size := by simp
 by_cases hA : 0 ≤ n ∧ n ≤ 33554431
 case neg =>
  have HD := Lib.hid (show bitsFltD n = ((0, 0), false) from if_neg hA)
  have DA := Lib.hid (show decide (0 ≤ n ∧ n ≤ 33554431) = false from decide_eq_false hA)
  clear hA
  go_enter Tryz.func167, Tryz.ntmps167
  go_wp2_with (go_at_call 125; refine (impl_withinE _ _ _ _).mono ?_; rintro ee w2 ⟨rfl, rfl⟩; rw [DA.out])
  obtain ⟨e0, e1⟩ := q0.cells2
  refine bodyPost_ret (v := .tuple #[.agg #[.int .i64 (0), .int .i64 (0)], .bool false]) (by simp [results, Tryz.results167, go_sem, e0, e1]) rfl ⟨by rw [HD.out], below1 _ _⟩
 have DA := Lib.hid (show decide (0 ≤ n ∧ n ≤ 33554431) = true from decide_eq_true hA)
 have HD0 := Lib.hid (show bitsFltD n = fltNewD (if 16777216 ≤ n then -(n % 65536) else n % 65536) (n / 65536 % 256 - 16) from if_pos hA)
 obtain ⟨a0, a1⟩ := hA
 have t1 : Int.tmod n 65536 = n % 65536 := Int.tmod_eq_emod_of_nonneg a0
 have t2 : Int.tdiv n 65536 = n / 65536 := Int.tdiv_eq_ediv_of_nonneg a0
 have t3 : Int.tmod (n / 65536) 256 = n / 65536 % 256 := Int.tmod_eq_emod_of_nonneg (by omega)
 have T1 := Lib.hid t1; have T2 := Lib.hid t2; have T3 := Lib.hid t3
 by_cases hS : 16777216 ≤ n
 all_goals
  have HD := Lib.hid HD0.out
  first | rw [if_pos hS] at HD | rw [if_neg hS] at HD
  clear HD0
  go_enter Tryz.func167, Tryz.ntmps167
  go_wp2_with (go_at_call 125; refine (impl_withinE _ _ _ _).mono ?_; rintro ee w2 ⟨rfl, rfl⟩; rw [DA.out])
  (try simp only [T1.out, T2.out, T3.out])
  refine (impl_FltNew _ (n / 65536 % 256 - 16) _ ⟨by omega, by omega⟩ ⟨by omega, by omega⟩).mono ?_
  rintro ee w2 ⟨rfl, hb2⟩
  rw [← HD.out]
  obtain ⟨⟨⟨x, y⟩, ok⟩, hxy⟩ : ∃ r, bitsFltD n = r := ⟨_, rfl⟩
  rw [hxy]
  have HXY := Lib.hid hxy; clear hxy
  have p2 := q0.below hb2 lg
  have ff2 := fun i => p2.frozen i
  obtain ⟨y0, y1⟩ := p2.cells2
  have hl2 : w.heap.size < w2.heap.size := p2.lt
  have HB2 := Lib.hid ((below1 w _).trans (hb2.mono (by simp)))
  clear z0 z1 ff hb2 q0 lg
  go_wp2_with fail
  obtain ⟨e0, e1⟩ := ((p2.set 0 (.int .i64 x)).set 1 (.int .i64 y)).cells2
  refine bodyPost_ret (v := .tuple #[.agg #[.int .i64 x, .int .i64 y], .bool ok]) (by simp [results, Tryz.results167, go_sem, e0, e1]) rfl ⟨by rw [HXY.out], HB2.out.trans ((below2s _ _ _ _).mono (Nat.le_refl _))⟩
theorem run_appStr {P : Program} (w : World) (t u ty : TypeId) {e : TypeId} (ht : P.underlying t = some (.slice e)) (hu : P.underlying u = some .string) (hinfo : (P.info? e).map (fun i => (i.zero, i.size, i.bytes)) = some (some (.int .u8 0), 1, 1))
  (rlo : Nat) (a : Option Addr) (cap : Nat) (l : List Int) (hl : ∀ x ∈ l, U8 x) (happ : AppL EByte 1 e w rlo a cap l []) (hlo : rlo ≤ w.heap.size) (s : ByteArray) (hbytes : l.length + s.size ≤ 140737488355328) :
  ∃ a' cap' w', (Builtin.append_ #[t, u] ty #[.slice a l.length cap, .string s]).run P w = .ok (.slice a' (l ++ byteL s).length cap') w' ∧ AppL EByte 1 e w' rlo a' cap' (l ++ byteL s) [] ∧ Below rlo w w' ∧
   (∀ f, f < w.heap.size → (∀ k, (Value.slice a l.length cap).ownBlock = some k → f ≠ k) → w'.heap[f]? = w.heap[f]?) ∧ w.heap.size ≤ w'.heap.size := by
 obtain ⟨i, hi', hz0, hz1, hz2⟩ := info_parts hinfo
 obtain ⟨xs, q1, q2, q3⟩ := happ.owns
 have hxs : xs = l.map (Value.int .u8) := by
  rcases happ with ⟨rfl, rfl, rfl, _⟩ | ⟨g, cur, rfl, h1, h3, h4, h5, h6, h7, h8⟩
  ·exact List.eq_nil_of_length_eq_zero (by simpa using q2)
  ·apply List.ext_getElem?
   intro j
   by_cases hj : j < l.length
   ·obtain ⟨F', hv, _⟩ := h7.get j hj
    have := q3 g rfl j (by omega)
    rw [← this]
    have hv2 := hv.2.1
    rw [Nat.mul_one] at hv2
    rw [hv2]; simp [hj]
   ·rw [List.getElem?_eq_none (by omega), List.getElem?_eq_none (by simp; omega)]
 subst hxs
 obtain ⟨v', w', hrun, hown, hgr, _⟩ := Lib.run_append_own_string (P := P) w rlo t u ty e i ht hu hi' hz0 hz1 hz2 (.slice a l.length cap) l.length (l.map (Value.int .u8)) q1 s (by unfold maxLen; omega) hbytes hlo
 rw [← byteL_cells, ← List.map_append] at hown
 obtain ⟨a', cap', rfl, happ'⟩ := appL_bytes (fun x hx => by rcases List.mem_append.1 hx with h | h; exact hl x h; exact byteL_u8 s x h) (by rw [List.length_append, byteL_len]) hown
 have hlow : ∀ k, (Value.slice a l.length cap).ownBlock = some k → rlo ≤ k := fun k hk => (by
  rcases happ with ⟨rfl, rfl, rfl, _⟩ | ⟨g, cur, rfl, k1, _⟩
  ·simp [Value.ownBlock] at hk
  ·simp only [Value.ownBlock, Option.some.injEq] at hk; omega)
 exact ⟨a', cap', w', hrun, happ', ⟨hgr.os, hgr.tape, hgr.output, hgr.size, fun f hf => hgr.block f (by omega) (fun e => by have := hlow f e.symm; omega)⟩, fun f hf hne => hgr.block f hf (fun e => hne f e.symm rfl), hgr.size⟩
section
variable {e : TypeId}
end
section
variable {α : Type} {E : World → Nat → Nat → α → List Nat → Prop} {n : Nat} {e : TypeId}
theorem step_appLR {P : Program} {w : World} (hE : Elem E n) {ops : Array Oper} {o : Oper} {act : Act} {K : Act → World → Prop} {Q : Exit → Act → World → Prop} {X : Prop} (hgd : o.guard = none) (s x : Operand) (t : TypeId)
  (ho : o.op = .call { callee := .builtin .append, args := #[s, x], argTypes := #[t, t] }) (z : Value) (bytes : Nat) (ht : P.underlying t = some (.slice e)) (hinfo : (P.info? e).map (fun i => (i.zero, i.size, i.bytes)) = some (some z, n, bytes)) (hzs : z.cells.size = n)
  (rlo : Nat) (a : Option Addr) (len cap : Nat) (l : List α) (F : List Nat) (hs : act.eval s = .slice a len cap) (hlen : len = l.length) (happ : AppL E n e w rlo a cap l F) (hlo : rlo ≤ w.heap.size)
  (a2 : Option Addr) (len2 c2 : Nat) (ys : List α) (G : List Nat) (hx : act.eval x = .slice a2 len2 c2) (hlen2 : len2 = ys.length) (hys : Srcs E n w a2 ys G) (hG : ∀ f ∈ G, f < rlo) (h63 : l.length + ys.length ≤ maxLen) (hbytes : (l.length + ys.length) * bytes ≤ 140737488355328)
  (h : ∀ a' cap' w', AppL E n e w' rlo a' cap' (l ++ ys) (F ++ G) → Below rlo w w' → (∀ f, f < w.heap.size → (∀ k, (Value.slice a l.length cap).ownBlock = some k → f ≠ k) → w'.heap[f]? = w.heap[f]?) → w.heap.size ≤ w'.heap.size → K (act.put o.dst (.slice a' (l ++ ys).length cap')) w') : if Region.wanted o (yielded ops act.tmps) = true then Oper.wp P o act w K Q else X := by
 subst hlen hlen2
 obtain ⟨a', c', w', hrun, r1, r2, r3, r4, r5⟩ := run_appL (P := P) w hE t o.type z bytes ht hinfo hzs rlo a cap l F happ hlo happ.cap.1 a2 c2 ys G hys hG h63 hbytes
 exact step_append_run w hgd s x t t ho _ _ hs hx _ _ hrun (h a' c' w' r1 r2 r3 r5)
theorem AppL.emptyIs {w : World} {g rlo : Nat} (h : Is w g e #[]) (hl : rlo ≤ g) : AppL E n e w rlo (Option.some ⟨g, 0, none⟩) 0 [] [] :=
 Or.inr ⟨g, #[], rfl, hl, h, Nat.le_refl _, by simp [maxLen], by simp, rfl, by simp⟩
theorem AppL.agreeB (hE : Elem E n) {w w' : World} {rlo cap : Nat} {a : Option Addr} {l : List α} (h : AppL E n e w rlo a cap l []) (hw : ∀ f, rlo ≤ f → f < w.heap.size → w'.heap[f]? = w.heap[f]?) : AppL E n e w' rlo a cap l [] := by
 rcases h with h | ⟨g, cur, ha, h1, h3, h4, h5, h6, h7, h8⟩
 ·exact Or.inl h
 ·have hg : g < w.heap.size := (Array.getElem?_eq_some_iff.1 h3).1
  exact Or.inr ⟨g, cur, ha, h1, (hw g h1 hg).trans h3, h4, h5, h6, h7.agree hE.loc l (Cells.of_block (hw g h1 hg) _ _) (fun f hf => by cases hf), h8⟩
end
theorem impl_PutBigL (len : Nat) (b : List Int) (n k : Int) (a : Option Addr) (cap B : Nat) (w : World) (hl : len = b.length) (hr : Rd EByte 1 w B a cap b) (hf : fitW n k) (hn : n ≤ 9223372036854775807) (hz : b.length ≤ 1099511627776) (hB : B ≤ w.heap.size) :
  Calls Tryz.prog 238 #[.slice a len cap, .int .i64 n, .int .i64 k] w fun e w' => ∃ a' cap', e = .returned (.slice a' (b ++ bigL n k.toNat).length cap') ∧ AppL EByte 1 5 w' w.heap.size a' cap' (b ++ bigL n k.toNat) [] ∧ Below w.heap.size w w' := by
 subst hl; exact impl_PutBig b n k a cap B w hr hf hn hz hB
set_option maxHeartbeats 16000000 in
theorem impl_PutHead (b : List Int) (m n k : Int) (a : Option Addr) (cap B : Nat) (w : World) (hr : Rd EByte 1 w B a cap b) (hn : I64 n) (hz : b.length ≤ 1073741824) (hB : B ≤ w.heap.size) :
  Calls Tryz.prog 191 #[.slice a b.length cap, .agg (cH m n k)] w fun e w' => ∃ a' cap', e = .returned (.slice a' (b ++ headL m n k).length cap') ∧ AppL EByte 1 5 w' w.heap.size a' cap' (b ++ headL m n k) [] ∧ Below w.heap.size w w' := by
 have q0 := Is.new w (cH m n k) 56
 have HB0 := Lib.hid (below1 w (.cells (cH m n k) 56))
 have lg : w.heap.size < (w.alloc (.cells (cH m n k) 56)).heap.size := by simp
 obtain ⟨c10, c11, c12⟩ := q0.cells3
 obtain ⟨bb, hbb⟩ : ∃ r, decide (headOk m n k) = r := ⟨_, rfl⟩
 have HBB := Lib.hid hbb
 have HN := Lib.hid hn
 have HR := Lib.hid hr
 clear hbb hr hn
 go_enter Tryz.func191, Tryz.ntmps191
 go_wp2_with fail
 refine (impl_HeadOk m n k _ HN.out).mono ?_
 rintro ee w2 ⟨rfl, hb2⟩
 rw [HBB.out]
 have q2 := q0.below hb2 lg
 obtain ⟨d0, d1, d2⟩ := q2.cells3
 have lg2 : w.heap.size < w2.heap.size := q2.lt
 have HB2 := Lib.hid (HB0.out.trans (hb2.mono (by simp)))
 have HR2 := Lib.hid (HR.out.below EByte.loc HB2.out hB)
 have Q2 := Lib.hid q2
 clear c10 c11 c12 hb2 q0 q2 lg HR HB0
 cases bb with
 | false =>
  have HE := Lib.hid (show b ++ headL m n k = b from by unfold headL; rw [if_neg (of_decide_eq_false HBB.out), List.append_nil])
  obtain ⟨a1, c1, w1, hrun, happ, hb1⟩ := copyB w2 b a cap B HR2.out (by omega) (by omega)
  have HA1 := Lib.hid happ
  have HB1 := Lib.hid (HB2.out.trans (hb1.mono (by omega)))
  clear happ hb1
  go_wp2_with (at_builtin; refine Lib.wpList_append_run _ rfl _ _ _ _ rfl _ _ rfl rfl _ _ hrun ?_)
  go_ret
  exact ⟨a1, c1, ret_sl (by rw [HE.out]; first | done | rfl | simp), by rw [HE.out]; exact HA1.out.less (by omega), HB1.out⟩
 | true =>
  have hok := of_decide_eq_true HBB.out
  have hin := infoD_in hok
  have HE := Lib.hid (show b ++ headL m n k = (b ++ [32 * m + infoD n k]) ++ bigL n k.toNat from by unfold headL; rw [if_pos hok, List.append_assoc]; rfl)
  have HF := Lib.hid (fun h => headOk_fit hok h)
  obtain ⟨hm, hn2, hkk⟩ := hok
  have CI := Lib.hid (fun W => impl_info m n k W)
  obtain ⟨I, hI⟩ : ∃ I, infoD n k = I := ⟨_, rfl⟩
  rw [hI] at HE hin CI
  have hwu : IntKind.u8.wrap (32 * m + I) = 32 * m + I := by rw [IntKind.wrap_u8]; omega
  have hwv : IntKind.u8.wrap (IntKind.i64.wrap (IntKind.i64.wrap (32 * m) + I)) = 32 * m + I := by
   rw [show IntKind.i64.wrap (32 * m) = 32 * m from by rw [Go.IntWalk.i64_left]; exact Go.IntWalk.wrap64_in _ ⟨by omega, by omega⟩, show IntKind.i64.wrap (32 * m + I) = 32 * m + I from by rw [Go.IntWalk.i64_left]; exact Go.IntWalk.wrap64_in _ ⟨by omega, by omega⟩]; exact hwu
  have HU : Hid (U8 (32 * m + I)) := Lib.hid (by unfold U8; omega)
  clear hkk hI
  go_wp2_with fail
  refine tkW (w2.heap.size) w2 (fun hHeld => ?_)
  refine tkS 1 13 rfl ?_
  refine tkS 3 15 rfl ?_
  refine tkS 4 16 rfl ?_
  refine tkS 5 17 rfl ?_
  refine tkS 6 18 rfl ?_
  refine tkA 0 12 rfl (fun K hK => ?_)
  go_simp; go_wp2_with fail; refine tkK hK (fun hHeld => ?_) (hS := (kpA (by assumption))); clear hK K
  refine tkA 2 14 rfl (fun K hK => ?_)
  focus ((first | (go_at_call 237; refine (CI.out _).mono ?_; rintro e w3 ⟨rfl, hb3⟩; have hsz3 := hb3.size; (try simp only [World.size_drew, size_alloc] at hsz3)) | (refine step_appLR EByte.elem rfl _ _ 22 rfl (.int .u8 0) 1 Tryz.underlying22 info_Byte2 rfl w2.heap.size (some ⟨_, 0, none⟩) 0 0 [] [] rfl rfl (by first | exact AppL.emptyIs (Is.new _ _ _) (by first | omega | (simp only [World.size_drew]; omega) | (simp only [size_alloc]; omega) | (simp only [World.size_drew, size_alloc]; omega)) | exact AppL.emptyIs ((Is.new _ _ _).below hb3 (by first | omega | (simp only [World.size_drew]; omega) | (simp only [size_alloc]; omega) | (simp only [World.size_drew, size_alloc]; omega))) (by first | omega | (simp only [World.size_drew]; omega) | (simp only [size_alloc]; omega) | (simp only [World.size_drew, size_alloc]; omega)) | exact AppL.emptyIs ((Is.new _ _ _).alloc _) (by first | omega | (simp only [World.size_drew]; omega) | (simp only [size_alloc]; omega) | (simp only [World.size_drew, size_alloc]; omega)) | exact AppL.emptyIs (Is.new2 _ _ _ _) (by first | omega | (simp only [World.size_drew]; omega) | (simp only [size_alloc]; omega) | (simp only [World.size_drew, size_alloc]; omega)) | exact AppL.emptyIs (((Is.new _ _ _).below hb3 (by first | omega | (simp only [World.size_drew]; omega) | (simp only [size_alloc]; omega) | (simp only [World.size_drew, size_alloc]; omega))).alloc _) (by first | omega | (simp only [World.size_drew]; omega) | (simp only [size_alloc]; omega) | (simp only [World.size_drew, size_alloc]; omega))) (by have := (‹_ ∧ Below (w2.heap.size) w2 _›).2.size; (first | omega | (simp only [World.size_drew]; omega) | (simp only [size_alloc]; omega) | (simp only [World.size_drew, size_alloc]; omega) | (simp only [World.size_drew, size_alloc] at this ⊢; omega))) a b.length cap b [] rfl rfl ((HR2.out.below EByte.loc (‹_ ∧ Below (w2.heap.size) w2 _›).2 (by omega)).srcs EByte.flat) (by simp) (by simp [maxLen]; omega) (by simp; omega) ?_; intro a4 c4 w4 happ4 hb4 hout4 hsz4; (try simp only [World.size_drew, size_alloc] at hsz4)) | (refine step_appLX EByte.elem rfl _ _ 22 rfl (.int .u8 0) 1 Tryz.underlying22 info_Byte2 rfl w2.heap.size a4 c4 b [] rfl (by first | exact happ4 | exact happ4.agree EByte.elem (fun f hf => (below1 _ _).block f hf) (by first | omega | (simp only [World.size_drew]; omega) | (simp only [size_alloc]; omega) | (simp only [World.size_drew, size_alloc]; omega)) | exact (happ4.agree EByte.elem (fun f hf => hb3.block f hf) (by first | omega | (simp only [World.size_drew]; omega) | (simp only [size_alloc]; omega) | (simp only [World.size_drew, size_alloc]; omega))).agree EByte.elem (fun f hf => (below1 _ _).block f hf) (by first | omega | (simp only [World.size_drew]; omega) | (simp only [size_alloc]; omega) | (simp only [World.size_drew, size_alloc]; omega))) (by have := (‹_ ∧ Below (w2.heap.size) w2 _›).2.size; (first | omega | (simp only [World.size_drew]; omega) | (simp only [size_alloc]; omega) | (simp only [World.size_drew, size_alloc]; omega) | (simp only [World.size_drew, size_alloc] at this ⊢; omega))) _ 0 1 1 [32 * m + I] [] rfl rfl ⟨[], [], rfl, ⟨rfl, ((Is.new _ _ _).cell 0 rfl), HU.out⟩, rfl⟩ (by simp) (by omega) (by unfold maxLen; omega) (by omega) ?_; intro a5 c5 w5 happ5 hb5 hout5)); refine tkK hK (fun hHeld => ?_); clear hK K)
  refine tkA 7 19 rfl (fun K hK => ?_)
  focus (go_simp; (first | (go_at_call 237; refine (CI.out _).mono ?_; rintro e w3 ⟨rfl, hb3⟩; have hsz3 := hb3.size; (try simp only [World.size_drew, size_alloc] at hsz3)) | (refine step_appLR EByte.elem rfl _ _ 22 rfl (.int .u8 0) 1 Tryz.underlying22 info_Byte2 rfl w2.heap.size (some ⟨_, 0, none⟩) 0 0 [] [] rfl rfl (by first | exact AppL.emptyIs (Is.new _ _ _) (by first | omega | (simp only [World.size_drew]; omega) | (simp only [size_alloc]; omega) | (simp only [World.size_drew, size_alloc]; omega)) | exact AppL.emptyIs ((Is.new _ _ _).below hb3 (by first | omega | (simp only [World.size_drew]; omega) | (simp only [size_alloc]; omega) | (simp only [World.size_drew, size_alloc]; omega))) (by first | omega | (simp only [World.size_drew]; omega) | (simp only [size_alloc]; omega) | (simp only [World.size_drew, size_alloc]; omega)) | exact AppL.emptyIs ((Is.new _ _ _).alloc _) (by first | omega | (simp only [World.size_drew]; omega) | (simp only [size_alloc]; omega) | (simp only [World.size_drew, size_alloc]; omega)) | exact AppL.emptyIs (Is.new2 _ _ _ _) (by first | omega | (simp only [World.size_drew]; omega) | (simp only [size_alloc]; omega) | (simp only [World.size_drew, size_alloc]; omega)) | exact AppL.emptyIs (((Is.new _ _ _).below hb3 (by first | omega | (simp only [World.size_drew]; omega) | (simp only [size_alloc]; omega) | (simp only [World.size_drew, size_alloc]; omega))).alloc _) (by first | omega | (simp only [World.size_drew]; omega) | (simp only [size_alloc]; omega) | (simp only [World.size_drew, size_alloc]; omega))) (by have := (‹_ ∧ Below (w2.heap.size) w2 _›).2.size; (first | omega | (simp only [World.size_drew]; omega) | (simp only [size_alloc]; omega) | (simp only [World.size_drew, size_alloc]; omega) | (simp only [World.size_drew, size_alloc] at this ⊢; omega))) a b.length cap b [] rfl rfl ((HR2.out.below EByte.loc (‹_ ∧ Below (w2.heap.size) w2 _›).2 (by omega)).srcs EByte.flat) (by simp) (by simp [maxLen]; omega) (by simp; omega) ?_; intro a4 c4 w4 happ4 hb4 hout4 hsz4; (try simp only [World.size_drew, size_alloc] at hsz4)) | (refine step_appLX EByte.elem rfl _ _ 22 rfl (.int .u8 0) 1 Tryz.underlying22 info_Byte2 rfl w2.heap.size a4 c4 b [] rfl (by first | exact happ4 | exact happ4.agree EByte.elem (fun f hf => (below1 _ _).block f hf) (by first | omega | (simp only [World.size_drew]; omega) | (simp only [size_alloc]; omega) | (simp only [World.size_drew, size_alloc]; omega)) | exact (happ4.agree EByte.elem (fun f hf => hb3.block f hf) (by first | omega | (simp only [World.size_drew]; omega) | (simp only [size_alloc]; omega) | (simp only [World.size_drew, size_alloc]; omega))).agree EByte.elem (fun f hf => (below1 _ _).block f hf) (by first | omega | (simp only [World.size_drew]; omega) | (simp only [size_alloc]; omega) | (simp only [World.size_drew, size_alloc]; omega))) (by have := (‹_ ∧ Below (w2.heap.size) w2 _›).2.size; (first | omega | (simp only [World.size_drew]; omega) | (simp only [size_alloc]; omega) | (simp only [World.size_drew, size_alloc]; omega) | (simp only [World.size_drew, size_alloc] at this ⊢; omega))) _ 0 1 1 [32 * m + I] [] rfl rfl ⟨[], [], rfl, ⟨rfl, ((Is.new _ _ _).cell 0 rfl), HU.out⟩, rfl⟩ (by simp) (by omega) (by unfold maxLen; omega) (by omega) ?_; intro a5 c5 w5 happ5 hb5 hout5)); go_wp2_with fail; refine tkK hK (fun hHeld => ?_); clear hK K)
  refine tkS 8 20 rfl ?_
  refine tkS 9 21 rfl ?_
  refine tkA 10 22 rfl (fun K hK => ?_)
  focus (go_simp; go_wp2_with fail; refine tkK hK (fun hHeld => ?_) (hS := (kpA (by assumption))); clear hK K)
  refine tkA 11 23 rfl (fun K hK => ?_)
  focus ((first | (go_at_call 237; refine (CI.out _).mono ?_; rintro e w3 ⟨rfl, hb3⟩; have hsz3 := hb3.size; (try simp only [World.size_drew, size_alloc] at hsz3)) | (refine step_appLR EByte.elem rfl _ _ 22 rfl (.int .u8 0) 1 Tryz.underlying22 info_Byte2 rfl w2.heap.size (some ⟨_, 0, none⟩) 0 0 [] [] rfl rfl (by first | exact AppL.emptyIs (Is.new _ _ _) (by first | omega | (simp only [World.size_drew]; omega) | (simp only [size_alloc]; omega) | (simp only [World.size_drew, size_alloc]; omega)) | exact AppL.emptyIs ((Is.new _ _ _).below hb3 (by first | omega | (simp only [World.size_drew]; omega) | (simp only [size_alloc]; omega) | (simp only [World.size_drew, size_alloc]; omega))) (by first | omega | (simp only [World.size_drew]; omega) | (simp only [size_alloc]; omega) | (simp only [World.size_drew, size_alloc]; omega)) | exact AppL.emptyIs ((Is.new _ _ _).alloc _) (by first | omega | (simp only [World.size_drew]; omega) | (simp only [size_alloc]; omega) | (simp only [World.size_drew, size_alloc]; omega)) | exact AppL.emptyIs (Is.new2 _ _ _ _) (by first | omega | (simp only [World.size_drew]; omega) | (simp only [size_alloc]; omega) | (simp only [World.size_drew, size_alloc]; omega)) | exact AppL.emptyIs (((Is.new _ _ _).below hb3 (by first | omega | (simp only [World.size_drew]; omega) | (simp only [size_alloc]; omega) | (simp only [World.size_drew, size_alloc]; omega))).alloc _) (by first | omega | (simp only [World.size_drew]; omega) | (simp only [size_alloc]; omega) | (simp only [World.size_drew, size_alloc]; omega))) (by have := (‹_ ∧ Below (w2.heap.size) w2 _›).2.size; (first | omega | (simp only [World.size_drew]; omega) | (simp only [size_alloc]; omega) | (simp only [World.size_drew, size_alloc]; omega) | (simp only [World.size_drew, size_alloc] at this ⊢; omega))) a b.length cap b [] rfl rfl ((HR2.out.below EByte.loc (‹_ ∧ Below (w2.heap.size) w2 _›).2 (by omega)).srcs EByte.flat) (by simp) (by simp [maxLen]; omega) (by simp; omega) ?_; intro a4 c4 w4 happ4 hb4 hout4 hsz4; (try simp only [World.size_drew, size_alloc] at hsz4)) | (refine step_appLX EByte.elem rfl _ _ 22 rfl (.int .u8 0) 1 Tryz.underlying22 info_Byte2 rfl w2.heap.size a4 c4 b [] rfl (by first | exact happ4 | exact happ4.agree EByte.elem (fun f hf => (below1 _ _).block f hf) (by first | omega | (simp only [World.size_drew]; omega) | (simp only [size_alloc]; omega) | (simp only [World.size_drew, size_alloc]; omega)) | exact (happ4.agree EByte.elem (fun f hf => hb3.block f hf) (by first | omega | (simp only [World.size_drew]; omega) | (simp only [size_alloc]; omega) | (simp only [World.size_drew, size_alloc]; omega))).agree EByte.elem (fun f hf => (below1 _ _).block f hf) (by first | omega | (simp only [World.size_drew]; omega) | (simp only [size_alloc]; omega) | (simp only [World.size_drew, size_alloc]; omega))) (by have := (‹_ ∧ Below (w2.heap.size) w2 _›).2.size; (first | omega | (simp only [World.size_drew]; omega) | (simp only [size_alloc]; omega) | (simp only [World.size_drew, size_alloc]; omega) | (simp only [World.size_drew, size_alloc] at this ⊢; omega))) _ 0 1 1 [32 * m + I] [] rfl rfl ⟨[], [], rfl, ⟨rfl, ((Is.new _ _ _).cell 0 rfl), HU.out⟩, rfl⟩ (by simp) (by omega) (by unfold maxLen; omega) (by omega) ?_; intro a5 c5 w5 happ5 hb5 hout5)); refine tkK hK (fun hHeld => ?_); clear hK K)
  refine tkS 12 5 rfl ?_
  refine tkE ?_
  all_goals
   have hBB := (‹_ ∧ Below (w2.heap.size) w2 _›).2
   have hs5 := hBB.size
   have HA5 := Lib.hid (happ5.less (show w.heap.size ≤ _ by omega))
   have HR5 := Lib.hid (happ5.rd (show w2.heap.size ≤ _ by omega))
   have HB5 := Lib.hid (HB2.out.trans (hBB.mono (by omega)))
   have q5 := Q2.out.below hBB (by omega)
   obtain ⟨f0, f1, f2⟩ := q5.cells3
   have lg5 := q5.lt
   clear happ5 hBB q5
   by_cases hk0 : 0 < k
   ·have HFW := Lib.hid (HF.out hk0)
    go_wp2_with fail
    refine (impl_PutBigL (b.length + 1) (b ++ [32 * m + I]) n k _ _ _ _ (by simp) HR5.out HFW.out HN.out.2 (by simp; omega) (Nat.le_refl _)).mono ?_
    rintro ee w6 ⟨a6, c6, rfl, happ6, hb6⟩
    have HA6 := Lib.hid happ6
    have HB6 := Lib.hid (HB5.out.trans (hb6.mono (by omega)))
    clear happ6 hb6
    go_wp2_with fail
    go_ret
    exact ⟨a6, c6, ret_sl (by rw [HE.out, List.length_append, List.length_append, List.length_singleton]; omega), by rw [HE.out]; exact HA6.out.less (by omega), HB6.out⟩
   ·have HE2 : Hid (b ++ headL m n k = b ++ [32 * m + I]) := Lib.hid (by rw [HE.out, show k.toNat = 0 from by omega, bigL, List.append_nil])
    go_wp2_with fail
    go_ret
    exact ⟨a5, c5, ret_sl (by have h := congrArg List.length HE2.out; simp only [List.length_append, List.length_singleton] at h ⊢; omega), by rw [HE2.out]; exact HA5.out, HB5.out⟩
theorem AppL.u8 {e : TypeId} {w : World} {rlo cap : Nat} {a : Option Addr} {l : List Int} (h : AppL EByte 1 e w rlo a cap l []) : ∀ x ∈ l, U8 x := by
 intro x hx
 rcases h with ⟨_, _, rfl, _⟩ | ⟨g, cur, ha, h1, h3, h4, h5, h6, h7, h8⟩
 ·cases hx
 ·obtain ⟨j, hj, rfl⟩ := List.mem_iff_getElem.1 hx
  obtain ⟨F', hv, _⟩ := h7.get j hj
  exact hv.2.2
def ascU (ns : List T) : Nat → Bool
 | 0 => true
 | 1 => true
 | j + 2 => ascU ns (j + 1) && lexB (packT (ns.getD j zT)) (packT (ns.getD (j + 1) zT))
theorem ascU_succ (ns : List T) (j : Nat) (h : j + 1 < ns.length) : ascU ns (j + 2) = (ascU ns (j + 1) && lexB (packT ns[j]) (packT ns[j + 1])) := by
 rw [ascU, List.getD_eq_getElem?_getD, List.getD_eq_getElem?_getD, List.getElem?_eq_getElem h, List.getElem?_eq_getElem (by omega)]; rfl
theorem ascU_false (ns : List T) (j n : Nat) (h : j ≤ n) (hf : ascU ns j = false) : ascU ns n = false := by
 induction n with
 | zero => rw [show j = 0 from by omega] at hf; exact hf
 | succ n ih =>
  by_cases hj : j = n + 1
  ·subst hj; exact hf
  ·have := ih (by omega)
   cases n with
   | zero => rw [ascU] at this; cases this
   | succ n => rw [ascU, this]; rfl
theorem evN_get (l : List T) (p j : Nat) (h : j < p) (hp : 2 * j < l.length) : (evN l p)[j]'(by rw [evN_len]; exact h) = l[2 * j] := by
 induction p with
 | zero => omega
 | succ p ih =>
  simp only [evN]
  by_cases hj : j < p
  ·rw [List.getElem_append_left (by rw [evN_len]; exact hj)]; exact ih hj
  ·have hjp : j = p := by omega
   subst hjp
   rw [List.getElem_append_right (by rw [evN_len]; omega)]
   simp only [List.getElem_singleton]
   rw [List.getD_eq_getElem?_getD, List.getElem?_eq_getElem hp]; rfl
def tightU (t : T) : Bool := ascU (namesT t) (namesT t).length && decide (t.k ≠ 6)
theorem tightU_not {t : T} (h : t.k ≠ 10) : tightU t = decide (t.k ≠ 6) := by
 unfold tightU namesT; rw [if_neg h]; rfl
theorem tightU_map {t : T} (h : t.k = 10) : tightU t = ascU (evN t.l ((t.l.length + 1) / 2)) ((t.l.length + 1) / 2) := by
 unfold tightU namesT; rw [if_pos h, evN_len, decide_eq_true (by omega), Bool.and_true]
theorem evAsc_succ (l : List T) (p j : Nat) (hp : p = (l.length + 1) / 2) (h : 2 * j + 2 < l.length) : ascU (evN l p) (j + 2) = (ascU (evN l p) (j + 1) && lexB (packT l[2 * j]) (packT l[2 * j + 2])) := by
 have e1 : j + 1 < (evN l p).length := by rw [evN_len]; omega
 rw [ascU_succ _ _ e1, evN_get l p j (by omega) (by omega), evN_get l p (j + 1) (by omega) (by omega)]; rfl
theorem lexB_end {x y : List Int} {j : Nat} (h : x.length ≤ j ∨ y.length ≤ j) (hx : j ≤ x.length) (hy : j ≤ y.length) : lexB (x.drop j) (y.drop j) = decide (x.length < y.length) := by
 rcases h with h | h
 ·rw [List.drop_of_length_le h]
  cases hd : y.drop j with
  | nil =>
   have := congrArg List.length hd
   rw [List.length_drop, List.length_nil] at this
   rw [decide_eq_false (by omega)]; rfl
  | cons b r =>
   have := congrArg List.length hd
   rw [List.length_drop, List.length_cons] at this
   rw [decide_eq_true (by omega)]; rfl
 ·rw [List.drop_of_length_le h, decide_eq_false (by omega)]
  cases x.drop j <;> rfl
theorem lexB_step {x y : List Int} {j : Nat} (hx : j < x.length) (hy : j < y.length) : lexB (x.drop j) (y.drop j) = if x[j] = y[j] then lexB (x.drop (j + 1)) (y.drop (j + 1)) else decide (x[j] < y[j]) := by
 rw [List.drop_eq_getElem_cons hx, List.drop_eq_getElem_cons hy, lexB]
set_option maxHeartbeats 4000000 in
theorem spec_LessBytes (x y : List Int) (a a' : Option Addr) (cap cap' B : Nat) (w : World) (hr : Rd EByte 1 w B a cap x) (hr' : Rd EByte 1 w B a' cap' y) (hB : B ≤ w.heap.size) :
  Calls Tryz.prog 189 #[.slice a x.length cap, .slice a' y.length cap'] w fun e w' => e = .returned (.bool (lexB x y)) ∧ Below w.heap.size w w' := by
 obtain ⟨hl1, hl2⟩ := hr.len
 obtain ⟨hm1, hm2⟩ := hr'.len
 go_enter Tryz.func189, Tryz.ntmps189
 go_wp2_with fail
 go_loopw [5] (fun i wr => ∃ (j : Nat), j ≤ x.length ∧ j ≤ y.length ∧ i = .int .i64 j ∧ Hid (lexB x y = lexB (x.drop j) (y.drop j)) ∧ Below w.heap.size w wr) (fun i _ => x.length - (intOf i).toNat)
 case atStart => exact ⟨0, Nat.zero_le _, Nat.zero_le _, rfl, Lib.hid rfl, Below.refl _ _⟩
 case round =>
  obtain ⟨j, hj, hj', rfl, HL, hb⟩ := hrel
  have hbs := hb.size
  by_cases h1 : j < x.length
  ·by_cases h2 : j < y.length
   ·obtain ⟨b, o, ha, hbl, d0, u0⟩ := (hr.below EByte.loc hb hB).byte j h1
    obtain ⟨b', o', ha', hbl', d1, u1⟩ := (hr'.below EByte.loc hb hB).byte j h2
    subst ha ha'
    have l1 : b < wr.heap.size := by omega
    have l2 : b' < wr.heap.size := by omega
    by_cases he : x[j] = y[j]
    ·have hne : (x[j] != y[j]) = false := by simp [he]
     have HE := Lib.hid (show lexB x y = lexB (x.drop (j + 1)) (y.drop (j + 1)) from by rw [HL.out, lexB_step h1 h2, if_pos he])
     go_wp2_with fail
     go_quiet (fail)
     go_wp2_with fail
     go_roundw
     case rel => exact ⟨j + 1, by omega, by omega, by go_num, HE, hb.trans (below_drewN _ _ _)⟩
     case measure => simp [intOf]; omega
    ·have hne : (x[j] != y[j]) = true := by simp [he]
     have HE := Lib.hid (show lexB x y = decide (x[j] < y[j]) from by rw [HL.out, lexB_step h1 h2, if_neg he])
     go_wp2_with fail
     go_quiet (fail)
     go_wp2_with fail
     go_quiet (fail)
     go_wp2_with fail
     go_ret
     exact ⟨ret_b HE.out.symm, (hb.trans (below_drewN _ _ _)).trans (below_drewN _ _ _)⟩
   ·have HE := Lib.hid (show lexB x y = decide (x.length < y.length) from by rw [HL.out, lexB_end (Or.inr (by omega)) hj hj'])
    go_wp2_with fail
    go_ret
    exact ⟨ret_b (by rw [HE.out]), hb⟩
  ·have HE := Lib.hid (show lexB x y = decide (x.length < y.length) from by rw [HL.out, lexB_end (Or.inl (by omega)) hj hj'])
   go_wp2_with fail
   go_ret
   exact ⟨ret_b (by rw [HE.out]), hb⟩
set_option maxHeartbeats 4000000 in
theorem l13All_of (l : List T) (IH : Hid (∀ t ∈ l, ∀ (a : Option Addr) (cap B : Nat) (w : World), R w B a cap t.l → Wf t → T.sz t ≤ 1048576 → B ≤ w.heap.size →
      Calls Tryz.prog 22 #[.agg (cV t a cap)] w fun e w' => ∃ a' cap', e = .returned (.slice a' (packT t).length cap') ∧ AppL EByte 1 5 w' w.heap.size a' cap' (packT t) [] ∧ Below w.heap.size w w'))
    (len : Nat) (b : List Int) (ar : Option Addr) (cr rlo : Nat) (a : Option Addr) (cap B : Nat) (w : World) (hlen : len = b.length) (happ : AppL EByte 1 5 w rlo ar cr b []) (hrl : rlo ≤ w.heap.size) (hr : R w B a cap l) (hB : B ≤ rlo) (hsz : T.szL l ≤ 1048576) (hbl : b.length ≤ 1073741824) :
    Calls Tryz.prog 77 #[.slice ar len cr, .slice a l.length cap] w fun e w' => ∃ a' cap', e = .returned (.slice a' (b ++ packTs l).length cap') ∧ AppL EByte 1 5 w' rlo a' cap' (b ++ packTs l) [] ∧ Below rlo w w' := by
  subst hlen
  obtain ⟨hl1, hl2⟩ := hr.len
  have HR := Lib.hid hr; clear hr
  have HA := Lib.hid happ; clear happ
  have HZ := Lib.hid hsz
  have hll := T.length_le_szL l
  go_enter Tryz.func77, Tryz.ntmps77
  go_wp2_with fail
  go_loopw [0, 5] (fun q i wr => ∃ (j : Nat) (a' : Option Addr) (c' : Nat), j ≤ l.length ∧ i = .int .i64 j ∧ q = .slice a' (b ++ packTs (l.take j)).length c' ∧ Hid (AppL EByte 1 5 wr rlo a' c' (b ++ packTs (l.take j)) []) ∧ Hid (Below rlo w wr)) (fun _ i _ => l.length - (intOf i).toNat)
  case atStart => exact ⟨0, ar, cr, Nat.zero_le _, rfl, by simp [packTs], by simpa [packTs] using HA, Lib.hid (Below.refl _ _)⟩
  case round =>
    clear HA
    obtain ⟨j, a', c', hj, rfl, rfl, HA, HB⟩ := hrel
    have hbs := HB.out.size
    by_cases hlt : j < l.length
    · obtain ⟨bb, o, a2, cap2, rfl, hbl2, d0, d1, d2, d3, d4, hwf, hq⟩ := (HR.out.below HB.out hB).get j hlt
      have hszj := T.sz_get l j hlt
      have hlb : bb < wr.heap.size := by omega
      have HWF := Lib.hid hwf
      have HQ := Lib.hid hq
      have hlen2 : (packTs (l.take j)).length ≤ 10485760 := by have := packTs_len (l.take j); have := T.szL_take_le l j; omega
      have hlen3 : (packT l[j]).length ≤ 10485769 := by have := packT_len l[j]; omega
      clear hwf hq
      go_wp2_with fail
      refine (IH.out l[j] (List.getElem_mem hlt) a2 cap2 B wr HQ.out HWF.out (by have := HZ.out; omega) (by omega)).mono ?_
      rintro e w2 ⟨a3, c3, rfl, happ3, hb3⟩
      have hs3 := hb3.size
      obtain ⟨a4, c4, w4, hrun, happ4, hb4, _, _, _⟩ := run_appL (P := Tryz.prog) w2 EByte.elem 22 22 (.int .u8 0) 1 Tryz.underlying22 info_Byte2 rfl rlo a' c' (b ++ packTs (l.take j)) [] (HA.out.agree EByte.elem (fun f hf => hb3.block f hf) (by omega)) (by omega) HA.out.cap.1 a3 c3 (packT l[j]) [] ((happ3.rd hs3).srcs EByte.flat) (by simp) (by rw [List.length_append]; unfold maxLen; omega) (by rw [List.length_append]; omega)
      have HA4 := Lib.hid happ4
      have HB4 := Lib.hid ((HB.out.trans (hb3.mono (by omega))).trans hb4)
      have HS := Lib.hid (show b ++ packTs (l.take (j + 1)) = (b ++ packTs (l.take j)) ++ packT l[j] from by rw [packTs_succ l j hlt, List.append_assoc])
      simp only [List.length_append] at hrun
      clear happ3 hb3 happ4 hb4
      go_wp2_with (at_builtin; refine Lib.wpList_append_run _ rfl _ _ _ _ rfl _ _ rfl rfl _ _ hrun ?_)
      go_roundw
      case rel => exact ⟨j + 1, a4, c4, by omega, by go_num, by rw [HS.out, List.length_append, List.length_append], Lib.hid (by rw [HS.out]; exact HA4.out), HB4⟩
      case measure => simp [intOf]; omega
    · have hjj : l.length = j := by omega
      have HJ := Lib.hid (show l.take j = l from by rw [← hjj, List.take_length])
      rw [HJ.out] at HA ⊢
      go_wp2_with fail
      go_ret
      exact ⟨a', c', rfl, HA.out, HB.out⟩
end Go.Proofs.YtggdenkmohnijaaGreatDoor
