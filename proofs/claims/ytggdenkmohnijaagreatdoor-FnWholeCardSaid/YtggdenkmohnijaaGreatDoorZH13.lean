/- Texts of this proof, merged: Pack1, MarkB. No condition beyond what each theorem states. -/
import Derived.Test.YtggdenkmohnijaaGreatDoorZH12
import Derived.Lib.BitFns
set_option linter.unusedSimpArgs false
set_option linter.unnecessarySimpa false
namespace Go.Proofs.YtggdenkmohnijaaGreatDoor
open Go.ChangeShapes Go.WideShapes Go.ChangeAt Go.RowKit Go.Joins
set_option linter.unusedVariables false
set_option maxRecDepth 100000
section
variable {α : Type} {E : World → Nat → Nat → α → List Nat → Prop} {n : Nat} {e : TypeId}
theorem step_appLR {P : Program} {w : World} (hE : Elem E n) {ops : Array Oper} {o : Oper} {act : Act} {K : Act → World → Prop} {Q : Exit → Act → World → Prop} {X : Prop} (hgd : o.guard = none) (s x : Operand) (t : TypeId)
  (ho : o.op = .call { callee := .builtin .append, args := #[s, x], argTypes := #[t, t] }) (z : Value) (bytes : Nat) (ht : P.underlying t = some (.slice e)) (hinfo : (P.info? e).map (fun i => (i.zero, i.size, i.bytes)) = some (some z, n, bytes)) (hzs : z.cells.size = n)
  (rlo : Nat) (a : Option Addr) (len cap : Nat) (l : List α) (F : List Nat) (hs : act.eval s = .slice a len cap) (hlen : len = l.length) (happ : AppL E n e w rlo a cap l F) (hlo : rlo ≤ w.heap.size)
  (a2 : Option Addr) (len2 c2 : Nat) (ys : List α) (G : List Nat) (hx : act.eval x = .slice a2 len2 c2) (hlen2 : len2 = ys.length) (hys : Srcs E n w a2 ys G) (hG : ∀ f ∈ G, f < rlo) (h63 : l.length + ys.length ≤ maxLen) (hbytes : (l.length + ys.length) * bytes ≤ 140737488355328)
  (h : ∀ a' cap' w', AppL E n e w' rlo a' cap' (l ++ ys) (F ++ G) → Below rlo w w' → (∀ f, f < w.heap.size → (∀ k, (Value.slice a l.length cap).ownBlock = some k → f ≠ k) → w'.heap[f]? = w.heap[f]?) → w.heap.size ≤ w'.heap.size → K (act.put o.dst (.slice a' (l ++ ys).length cap')) w') : if Region.wanted o (yielded ops act.tmps) = true then Oper.wp P o act w K Q else X := by
 subst hlen hlen2
 obtain ⟨a', c', w', hrun, r1, r2, r3, r4, r5⟩ := run_appL (P := P) w hE t o.type z bytes ht hinfo hzs rlo a cap l F happ hlo happ.cap.1 a2 c2 ys G hys hG h63 hbytes
 exact step_append_run w hgd s x t t ho _ _ hs hx _ _ hrun (h a' c' w' r1 r2 r3 r5)
theorem AppL.emptyIs {w : World} {g rlo : Nat} (h : Is w g e #[]) (hl : rlo ≤ g) : AppL E n e w rlo (Option.some ⟨g, 0, none⟩) 0 [] [] :=
 Or.inr ⟨g, #[], rfl, hl, h, Nat.le_refl _, by simp [maxLen], by simp, rfl, by simp⟩
theorem AppL.agreeB (hE : Elem E n) {w w' : World} {rlo cap : Nat} {a : Option Addr} {l : List α} (h : AppL E n e w rlo a cap l []) (hw : ∀ f, rlo ≤ f → f < w.heap.size → w'.heap[f]? = w.heap[f]?) : AppL E n e w' rlo a cap l [] := by
 rcases h with h | ⟨g, cur, ha, h1, h3, h4, h5, h6, h7, h8⟩
 ·exact Or.inl h
 ·have hg : g < w.heap.size := (Array.getElem?_eq_some_iff.1 h3).1
  exact Or.inr ⟨g, cur, ha, h1, (hw g h1 hg).trans h3, h4, h5, h6, h7.agree hE.loc l (Cells.of_block (hw g h1 hg) _ _) (fun f hf => by cases hf), h8⟩
end
theorem impl_PutBigL (len : Nat) (b : List Int) (n k : Int) (a : Option Addr) (cap B : Nat) (w : World) (hl : len = b.length) (hr : Rd EByte 1 w B a cap b) (hf : fitW n k) (hn : n ≤ 9223372036854775807) (hz : b.length ≤ 1099511627776) (hB : B ≤ w.heap.size) :
  Calls Tryz.prog 238 #[.slice a len cap, .int .i64 n, .int .i64 k] w fun e w' => ∃ a' cap', e = .returned (.slice a' (b ++ bigL n k.toNat).length cap') ∧ AppL EByte 1 5 w' w.heap.size a' cap' (b ++ bigL n k.toNat) [] ∧ Below w.heap.size w w' := by
 subst hl; exact impl_PutBig b n k a cap B w hr hf hn hz hB
set_option maxHeartbeats 16000000 in
theorem impl_PutHead (b : List Int) (m n k : Int) (a : Option Addr) (cap B : Nat) (w : World) (hr : Rd EByte 1 w B a cap b) (hn : I64 n) (hz : b.length ≤ 1073741824) (hB : B ≤ w.heap.size) :
  Calls Tryz.prog 191 #[.slice a b.length cap, .agg (cH m n k)] w fun e w' => ∃ a' cap', e = .returned (.slice a' (b ++ headL m n k).length cap') ∧ AppL EByte 1 5 w' w.heap.size a' cap' (b ++ headL m n k) [] ∧ Below w.heap.size w w' := by
 have q0 := Is.new w (cH m n k) 56
 have HB0 := Lib.hid (below1 w (.cells (cH m n k) 56))
 have lg : w.heap.size < (w.alloc (.cells (cH m n k) 56)).heap.size := by simp
 obtain ⟨c10, c11, c12⟩ := q0.cells3
 obtain ⟨bb, hbb⟩ : ∃ r, decide (headOk m n k) = r := ⟨_, rfl⟩
 have HBB := Lib.hid hbb
 have HN := Lib.hid hn
 have HR := Lib.hid hr
 clear hbb hr hn
 go_enter Tryz.func191, Tryz.ntmps191
 go_wp2_with fail
 refine (impl_HeadOk m n k _ HN.out).mono ?_
 rintro ee w2 ⟨rfl, hb2⟩
 rw [HBB.out]
 have q2 := q0.below hb2 lg
 obtain ⟨d0, d1, d2⟩ := q2.cells3
 have lg2 : w.heap.size < w2.heap.size := q2.lt
 have HB2 := Lib.hid (HB0.out.trans (hb2.mono (by simp)))
 have HR2 := Lib.hid (HR.out.below EByte.loc HB2.out hB)
 have Q2 := Lib.hid q2
 clear c10 c11 c12 hb2 q0 q2 lg HR HB0
 cases bb with
 | false =>
  have HE := Lib.hid (show b ++ headL m n k = b from by unfold headL; rw [if_neg (of_decide_eq_false HBB.out), List.append_nil])
  obtain ⟨a1, c1, w1, hrun, happ, hb1⟩ := copyB w2 b a cap B HR2.out (by omega) (by omega)
  have HA1 := Lib.hid happ
  have HB1 := Lib.hid (HB2.out.trans (hb1.mono (by omega)))
  clear happ hb1
  go_wp2_with (at_builtin; refine Lib.wpList_append_run _ rfl _ _ _ _ rfl _ _ rfl rfl _ _ hrun ?_)
  go_ret
  exact ⟨a1, c1, ret_sl (by rw [HE.out]; first | done | rfl | simp), by rw [HE.out]; exact HA1.out.less (by omega), HB1.out⟩
 | true =>
  have hok := of_decide_eq_true HBB.out
  have hin := infoD_in hok
  have HE := Lib.hid (show b ++ headL m n k = (b ++ [32 * m + infoD n k]) ++ bigL n k.toNat from by unfold headL; rw [if_pos hok, List.append_assoc]; rfl)
  have HF := Lib.hid (fun h => headOk_fit hok h)
  obtain ⟨hm, hn2, hkk⟩ := hok
  have CI := Lib.hid (fun W => impl_info m n k W)
  obtain ⟨I, hI⟩ : ∃ I, infoD n k = I := ⟨_, rfl⟩
  rw [hI] at HE hin CI
  have hwu : IntKind.u8.wrap (32 * m + I) = 32 * m + I := by rw [IntKind.wrap_u8]; omega
  have hwv : IntKind.u8.wrap (IntKind.i64.wrap (IntKind.i64.wrap (32 * m) + I)) = 32 * m + I := by
   rw [show IntKind.i64.wrap (32 * m) = 32 * m from by rw [Go.IntWalk.i64_left]; exact Go.IntWalk.wrap64_in _ ⟨by omega, by omega⟩, show IntKind.i64.wrap (32 * m + I) = 32 * m + I from by rw [Go.IntWalk.i64_left]; exact Go.IntWalk.wrap64_in _ ⟨by omega, by omega⟩]; exact hwu
  have HU : Hid (U8 (32 * m + I)) := Lib.hid (by unfold U8; omega)
  clear hkk hI
  go_wp2_with fail
  refine tkW (w2.heap.size) w2 (fun hHeld => ?_)
  refine tkS 1 13 rfl ?_
  refine tkS 3 15 rfl ?_
  refine tkS 4 16 rfl ?_
  refine tkS 5 17 rfl ?_
  refine tkS 6 18 rfl ?_
  refine tkA 0 12 rfl (fun K hK => ?_)
  go_simp; go_wp2_with fail; refine tkK hK (fun hHeld => ?_) (hS := (kpA (by assumption))); clear hK K
  refine tkA 2 14 rfl (fun K hK => ?_)
  focus ((first | (go_at_call 237; refine (CI.out _).mono ?_; rintro e w3 ⟨rfl, hb3⟩; have hsz3 := hb3.size; (try simp only [World.size_drew, size_alloc] at hsz3)) | (refine step_appLR EByte.elem rfl _ _ 22 rfl (.int .u8 0) 1 Tryz.underlying22 info_Byte2 rfl w2.heap.size (some ⟨_, 0, none⟩) 0 0 [] [] rfl rfl (by first | exact AppL.emptyIs (Is.new _ _ _) (by first | omega | (simp only [World.size_drew]; omega) | (simp only [size_alloc]; omega) | (simp only [World.size_drew, size_alloc]; omega)) | exact AppL.emptyIs ((Is.new _ _ _).below hb3 (by first | omega | (simp only [World.size_drew]; omega) | (simp only [size_alloc]; omega) | (simp only [World.size_drew, size_alloc]; omega))) (by first | omega | (simp only [World.size_drew]; omega) | (simp only [size_alloc]; omega) | (simp only [World.size_drew, size_alloc]; omega)) | exact AppL.emptyIs ((Is.new _ _ _).alloc _) (by first | omega | (simp only [World.size_drew]; omega) | (simp only [size_alloc]; omega) | (simp only [World.size_drew, size_alloc]; omega)) | exact AppL.emptyIs (Is.new2 _ _ _ _) (by first | omega | (simp only [World.size_drew]; omega) | (simp only [size_alloc]; omega) | (simp only [World.size_drew, size_alloc]; omega)) | exact AppL.emptyIs (((Is.new _ _ _).below hb3 (by first | omega | (simp only [World.size_drew]; omega) | (simp only [size_alloc]; omega) | (simp only [World.size_drew, size_alloc]; omega))).alloc _) (by first | omega | (simp only [World.size_drew]; omega) | (simp only [size_alloc]; omega) | (simp only [World.size_drew, size_alloc]; omega))) (by have := (‹_ ∧ Below (w2.heap.size) w2 _›).2.size; (first | omega | (simp only [World.size_drew]; omega) | (simp only [size_alloc]; omega) | (simp only [World.size_drew, size_alloc]; omega) | (simp only [World.size_drew, size_alloc] at this ⊢; omega))) a b.length cap b [] rfl rfl ((HR2.out.below EByte.loc (‹_ ∧ Below (w2.heap.size) w2 _›).2 (by omega)).srcs EByte.flat) (by simp) (by simp [maxLen]; omega) (by simp; omega) ?_; intro a4 c4 w4 happ4 hb4 hout4 hsz4; (try simp only [World.size_drew, size_alloc] at hsz4)) | (refine step_appLX EByte.elem rfl _ _ 22 rfl (.int .u8 0) 1 Tryz.underlying22 info_Byte2 rfl w2.heap.size a4 c4 b [] rfl (by first | exact happ4 | exact happ4.agree EByte.elem (fun f hf => (below1 _ _).block f hf) (by first | omega | (simp only [World.size_drew]; omega) | (simp only [size_alloc]; omega) | (simp only [World.size_drew, size_alloc]; omega)) | exact (happ4.agree EByte.elem (fun f hf => hb3.block f hf) (by first | omega | (simp only [World.size_drew]; omega) | (simp only [size_alloc]; omega) | (simp only [World.size_drew, size_alloc]; omega))).agree EByte.elem (fun f hf => (below1 _ _).block f hf) (by first | omega | (simp only [World.size_drew]; omega) | (simp only [size_alloc]; omega) | (simp only [World.size_drew, size_alloc]; omega))) (by have := (‹_ ∧ Below (w2.heap.size) w2 _›).2.size; (first | omega | (simp only [World.size_drew]; omega) | (simp only [size_alloc]; omega) | (simp only [World.size_drew, size_alloc]; omega) | (simp only [World.size_drew, size_alloc] at this ⊢; omega))) _ 0 1 1 [32 * m + I] [] rfl rfl ⟨[], [], rfl, ⟨rfl, ((Is.new _ _ _).cell 0 rfl), HU.out⟩, rfl⟩ (by simp) (by omega) (by unfold maxLen; omega) (by omega) ?_; intro a5 c5 w5 happ5 hb5 hout5)); refine tkK hK (fun hHeld => ?_); clear hK K)
  refine tkA 7 19 rfl (fun K hK => ?_)
  focus (go_simp; (first | (go_at_call 237; refine (CI.out _).mono ?_; rintro e w3 ⟨rfl, hb3⟩; have hsz3 := hb3.size; (try simp only [World.size_drew, size_alloc] at hsz3)) | (refine step_appLR EByte.elem rfl _ _ 22 rfl (.int .u8 0) 1 Tryz.underlying22 info_Byte2 rfl w2.heap.size (some ⟨_, 0, none⟩) 0 0 [] [] rfl rfl (by first | exact AppL.emptyIs (Is.new _ _ _) (by first | omega | (simp only [World.size_drew]; omega) | (simp only [size_alloc]; omega) | (simp only [World.size_drew, size_alloc]; omega)) | exact AppL.emptyIs ((Is.new _ _ _).below hb3 (by first | omega | (simp only [World.size_drew]; omega) | (simp only [size_alloc]; omega) | (simp only [World.size_drew, size_alloc]; omega))) (by first | omega | (simp only [World.size_drew]; omega) | (simp only [size_alloc]; omega) | (simp only [World.size_drew, size_alloc]; omega)) | exact AppL.emptyIs ((Is.new _ _ _).alloc _) (by first | omega | (simp only [World.size_drew]; omega) | (simp only [size_alloc]; omega) | (simp only [World.size_drew, size_alloc]; omega)) | exact AppL.emptyIs (Is.new2 _ _ _ _) (by first | omega | (simp only [World.size_drew]; omega) | (simp only [size_alloc]; omega) | (simp only [World.size_drew, size_alloc]; omega)) | exact AppL.emptyIs (((Is.new _ _ _).below hb3 (by first | omega | (simp only [World.size_drew]; omega) | (simp only [size_alloc]; omega) | (simp only [World.size_drew, size_alloc]; omega))).alloc _) (by first | omega | (simp only [World.size_drew]; omega) | (simp only [size_alloc]; omega) | (simp only [World.size_drew, size_alloc]; omega))) (by have := (‹_ ∧ Below (w2.heap.size) w2 _›).2.size; (first | omega | (simp only [World.size_drew]; omega) | (simp only [size_alloc]; omega) | (simp only [World.size_drew, size_alloc]; omega) | (simp only [World.size_drew, size_alloc] at this ⊢; omega))) a b.length cap b [] rfl rfl ((HR2.out.below EByte.loc (‹_ ∧ Below (w2.heap.size) w2 _›).2 (by omega)).srcs EByte.flat) (by simp) (by simp [maxLen]; omega) (by simp; omega) ?_; intro a4 c4 w4 happ4 hb4 hout4 hsz4; (try simp only [World.size_drew, size_alloc] at hsz4)) | (refine step_appLX EByte.elem rfl _ _ 22 rfl (.int .u8 0) 1 Tryz.underlying22 info_Byte2 rfl w2.heap.size a4 c4 b [] rfl (by first | exact happ4 | exact happ4.agree EByte.elem (fun f hf => (below1 _ _).block f hf) (by first | omega | (simp only [World.size_drew]; omega) | (simp only [size_alloc]; omega) | (simp only [World.size_drew, size_alloc]; omega)) | exact (happ4.agree EByte.elem (fun f hf => hb3.block f hf) (by first | omega | (simp only [World.size_drew]; omega) | (simp only [size_alloc]; omega) | (simp only [World.size_drew, size_alloc]; omega))).agree EByte.elem (fun f hf => (below1 _ _).block f hf) (by first | omega | (simp only [World.size_drew]; omega) | (simp only [size_alloc]; omega) | (simp only [World.size_drew, size_alloc]; omega))) (by have := (‹_ ∧ Below (w2.heap.size) w2 _›).2.size; (first | omega | (simp only [World.size_drew]; omega) | (simp only [size_alloc]; omega) | (simp only [World.size_drew, size_alloc]; omega) | (simp only [World.size_drew, size_alloc] at this ⊢; omega))) _ 0 1 1 [32 * m + I] [] rfl rfl ⟨[], [], rfl, ⟨rfl, ((Is.new _ _ _).cell 0 rfl), HU.out⟩, rfl⟩ (by simp) (by omega) (by unfold maxLen; omega) (by omega) ?_; intro a5 c5 w5 happ5 hb5 hout5)); go_wp2_with fail; refine tkK hK (fun hHeld => ?_); clear hK K)
  refine tkS 8 20 rfl ?_
  refine tkS 9 21 rfl ?_
  refine tkA 10 22 rfl (fun K hK => ?_)
  focus (go_simp; go_wp2_with fail; refine tkK hK (fun hHeld => ?_) (hS := (kpA (by assumption))); clear hK K)
  refine tkA 11 23 rfl (fun K hK => ?_)
  focus ((first | (go_at_call 237; refine (CI.out _).mono ?_; rintro e w3 ⟨rfl, hb3⟩; have hsz3 := hb3.size; (try simp only [World.size_drew, size_alloc] at hsz3)) | (refine step_appLR EByte.elem rfl _ _ 22 rfl (.int .u8 0) 1 Tryz.underlying22 info_Byte2 rfl w2.heap.size (some ⟨_, 0, none⟩) 0 0 [] [] rfl rfl (by first | exact AppL.emptyIs (Is.new _ _ _) (by first | omega | (simp only [World.size_drew]; omega) | (simp only [size_alloc]; omega) | (simp only [World.size_drew, size_alloc]; omega)) | exact AppL.emptyIs ((Is.new _ _ _).below hb3 (by first | omega | (simp only [World.size_drew]; omega) | (simp only [size_alloc]; omega) | (simp only [World.size_drew, size_alloc]; omega))) (by first | omega | (simp only [World.size_drew]; omega) | (simp only [size_alloc]; omega) | (simp only [World.size_drew, size_alloc]; omega)) | exact AppL.emptyIs ((Is.new _ _ _).alloc _) (by first | omega | (simp only [World.size_drew]; omega) | (simp only [size_alloc]; omega) | (simp only [World.size_drew, size_alloc]; omega)) | exact AppL.emptyIs (Is.new2 _ _ _ _) (by first | omega | (simp only [World.size_drew]; omega) | (simp only [size_alloc]; omega) | (simp only [World.size_drew, size_alloc]; omega)) | exact AppL.emptyIs (((Is.new _ _ _).below hb3 (by first | omega | (simp only [World.size_drew]; omega) | (simp only [size_alloc]; omega) | (simp only [World.size_drew, size_alloc]; omega))).alloc _) (by first | omega | (simp only [World.size_drew]; omega) | (simp only [size_alloc]; omega) | (simp only [World.size_drew, size_alloc]; omega))) (by have := (‹_ ∧ Below (w2.heap.size) w2 _›).2.size; (first | omega | (simp only [World.size_drew]; omega) | (simp only [size_alloc]; omega) | (simp only [World.size_drew, size_alloc]; omega) | (simp only [World.size_drew, size_alloc] at this ⊢; omega))) a b.length cap b [] rfl rfl ((HR2.out.below EByte.loc (‹_ ∧ Below (w2.heap.size) w2 _›).2 (by omega)).srcs EByte.flat) (by simp) (by simp [maxLen]; omega) (by simp; omega) ?_; intro a4 c4 w4 happ4 hb4 hout4 hsz4; (try simp only [World.size_drew, size_alloc] at hsz4)) | (refine step_appLX EByte.elem rfl _ _ 22 rfl (.int .u8 0) 1 Tryz.underlying22 info_Byte2 rfl w2.heap.size a4 c4 b [] rfl (by first | exact happ4 | exact happ4.agree EByte.elem (fun f hf => (below1 _ _).block f hf) (by first | omega | (simp only [World.size_drew]; omega) | (simp only [size_alloc]; omega) | (simp only [World.size_drew, size_alloc]; omega)) | exact (happ4.agree EByte.elem (fun f hf => hb3.block f hf) (by first | omega | (simp only [World.size_drew]; omega) | (simp only [size_alloc]; omega) | (simp only [World.size_drew, size_alloc]; omega))).agree EByte.elem (fun f hf => (below1 _ _).block f hf) (by first | omega | (simp only [World.size_drew]; omega) | (simp only [size_alloc]; omega) | (simp only [World.size_drew, size_alloc]; omega))) (by have := (‹_ ∧ Below (w2.heap.size) w2 _›).2.size; (first | omega | (simp only [World.size_drew]; omega) | (simp only [size_alloc]; omega) | (simp only [World.size_drew, size_alloc]; omega) | (simp only [World.size_drew, size_alloc] at this ⊢; omega))) _ 0 1 1 [32 * m + I] [] rfl rfl ⟨[], [], rfl, ⟨rfl, ((Is.new _ _ _).cell 0 rfl), HU.out⟩, rfl⟩ (by simp) (by omega) (by unfold maxLen; omega) (by omega) ?_; intro a5 c5 w5 happ5 hb5 hout5)); refine tkK hK (fun hHeld => ?_); clear hK K)
  refine tkS 12 5 rfl ?_
  refine tkE ?_
  all_goals
   have hBB := (‹_ ∧ Below (w2.heap.size) w2 _›).2
   have hs5 := hBB.size
   have HA5 := Lib.hid (happ5.less (show w.heap.size ≤ _ by omega))
   have HR5 := Lib.hid (happ5.rd (show w2.heap.size ≤ _ by omega))
   have HB5 := Lib.hid (HB2.out.trans (hBB.mono (by omega)))
   have q5 := Q2.out.below hBB (by omega)
   obtain ⟨f0, f1, f2⟩ := q5.cells3
   have lg5 := q5.lt
   clear happ5 hBB q5
   by_cases hk0 : 0 < k
   ·have HFW := Lib.hid (HF.out hk0)
    go_wp2_with fail
    refine (impl_PutBigL (b.length + 1) (b ++ [32 * m + I]) n k _ _ _ _ (by simp) HR5.out HFW.out HN.out.2 (by simp; omega) (Nat.le_refl _)).mono ?_
    rintro ee w6 ⟨a6, c6, rfl, happ6, hb6⟩
    have HA6 := Lib.hid happ6
    have HB6 := Lib.hid (HB5.out.trans (hb6.mono (by omega)))
    clear happ6 hb6
    go_wp2_with fail
    go_ret
    exact ⟨a6, c6, ret_sl (by rw [HE.out, List.length_append, List.length_append, List.length_singleton]; omega), by rw [HE.out]; exact HA6.out.less (by omega), HB6.out⟩
   ·have HE2 : Hid (b ++ headL m n k = b ++ [32 * m + I]) := Lib.hid (by rw [HE.out, show k.toNat = 0 from by omega, bigL, List.append_nil])
    go_wp2_with fail
    go_ret
    exact ⟨a5, c5, ret_sl (by have h := congrArg List.length HE2.out; simp only [List.length_append, List.length_singleton] at h ⊢; omega), by rw [HE2.out]; exact HA5.out, HB5.out⟩
theorem impl_BitsOf (n : Int) (w : World) (hn : n = 1 ∨ n = 2 ∨ n = 4 ∨ n = 8) :
  Calls Tryz.prog 268 #[.int .i64 n] w fun e w' => e = .returned (.int .i64 (bitsW n)) ∧ w' = w := by
 have DN := Lib.hid (show decide (0 ≤ n ∧ n ≤ 1000000000000000) = true from decide_eq_true (by omega))
 rcases hn with rfl | rfl | rfl | rfl
 all_goals
  go_enter Tryz.func268, Tryz.ntmps268
  go_wp2_with (go_at_call 125; refine (impl_withinE _ _ _ _).mono ?_; rintro ee w2 ⟨rfl, rfl⟩; rw [DN.out])
  refine (Tryz.bits_Len _ _ (by decide) (by decide)).mono ?_
  rintro ee w2 ⟨rfl, rfl⟩
  go_wp2_with fail
  go_ret
  exact ⟨rfl, rfl⟩
set_option maxHeartbeats 4000000 in
theorem impl_putMany (b : List Int) (n few base short long : Int) (a : Option Addr) (cap rlo : Nat) (w : World) (happ : AppL EByte 1 5 w rlo a cap b []) (hlo : rlo ≤ w.heap.size) (hz : b.length ≤ 1073741824) (hn : 0 ≤ n ∧ n ≤ 65535)
  (hf : n < few → 0 ≤ base + n ∧ base + n ≤ 255) (hs : 0 ≤ short ∧ short ≤ 255) (hl : 0 ≤ long ∧ long ≤ 255) (hb : 0 ≤ base ∧ base ≤ 255) :
  Calls Tryz.prog 255 #[.slice a b.length cap, .int .i64 n, .int .i64 few, .int .i64 base, .int .i64 short, .int .i64 long] w fun e w' => ∃ a' cap', e = .returned (.slice a' (b ++ putManyL n few base short long).length cap') ∧ AppL EByte 1 5 w' rlo a' cap' (b ++ putManyL n few base short long) [] ∧ Below rlo w w' := by
 have HA := Lib.hid happ
 obtain ⟨hn0, hn1⟩ := hn
 obtain ⟨hs0, hs1⟩ := hs
 obtain ⟨hl0, hl1⟩ := hl
 obtain ⟨hb0, hb1⟩ := hb
 clear happ
 by_cases h1 : n < few
 ·obtain ⟨f0, f1⟩ := hf h1
  have HE := Lib.hid (show putManyL n few base short long = [base + n] from if_pos h1)
  have hwu : IntKind.u8.wrap (base + n) = base + n := by rw [IntKind.wrap_u8]; omega
  have HU : Hid (∀ v ∈ [base + n], U8 v) := Lib.hid (by intro v hv; rw [List.mem_singleton] at hv; subst hv; unfold U8; omega)
  go_enter Tryz.func255, Tryz.ntmps255
  go_wp2_with (at_builtin; refine wpList_bytes rfl _ _ 22 rfl Tryz.underlying22 info_Byte2 rlo a _ cap b rfl rfl HA.out hlo [base + n] _ 1 1 rfl (by rfl) rfl (by first | rfl | simp [hwu]) HU.out (by simp) (by simp; omega) ?_; intro a2 c2 w2 happ2 hb2)
  go_ret
  exact ⟨a2, c2, ret_sl (by rw [HE.out]; first | done | rfl | (simp [bigL_len]; done) | (simp [bigL_len]; omega)), by rw [HE.out]; exact happ2, hb2⟩
 by_cases h2 : n < 256 ∧ 0 < short
 ·have HE := Lib.hid (show putManyL n few base short long = short :: bigL n 1 from (if_neg h1).trans (if_pos h2))
  obtain ⟨h2a, h2b⟩ := h2
  have h2c : (short != 0) = true := by simp; omega
  have hwu : IntKind.u8.wrap short = short := by rw [IntKind.wrap_u8]; omega
  have HU : Hid (∀ v ∈ [short], U8 v) := Lib.hid (by intro v hv; rw [List.mem_singleton] at hv; subst hv; unfold U8; omega)
  go_enter Tryz.func255, Tryz.ntmps255
  go_wp2_with (at_builtin; refine wpList_bytes rfl _ _ 22 rfl Tryz.underlying22 info_Byte2 rlo a _ cap b rfl rfl HA.out hlo [short] _ 1 1 rfl (by rfl) rfl (by first | rfl | simp [hwu]) HU.out (by simp) (by simp; omega) ?_; intro a2 c2 w2 happ2 hb2)
  refine (impl_PutBigL _ (b ++ [short]) n 1 a2 c2 w2.heap.size w2 (by simp) (happ2.rd (Nat.le_trans hlo hb2.size)) ⟨hn0, Or.inl ⟨rfl, h2a⟩⟩ (by omega) (by simp; omega) (Nat.le_refl _)).mono ?_
  rintro e w3 ⟨a3, c3, rfl, happ3, hb3⟩
  have hs2 := hb2.size
  go_wp2_with fail
  go_ret
  exact ⟨a3, c3, ret_sl (by rw [HE.out]; first | done | rfl | (simp [bigL_len]; done) | (simp [bigL_len]; omega)), by rw [HE.out, show b ++ short :: bigL n 1 = (b ++ [short]) ++ bigL n (1 : Int).toNat from by rw [List.append_assoc]; rfl]; exact happ3.less (by omega), hb2.trans (hb3.mono (by omega))⟩
 ·have HE := Lib.hid (show putManyL n few base short long = long :: bigL n 2 from (if_neg h1).trans (if_neg h2))
  have hwu : IntKind.u8.wrap long = long := by rw [IntKind.wrap_u8]; omega
  have HU : Hid (∀ v ∈ [long], U8 v) := Lib.hid (by intro v hv; rw [List.mem_singleton] at hv; subst hv; unfold U8; omega)
  by_cases h3 : n < 256
  all_goals
   (try have h3s : short = 0 := by omega)
   (try subst h3s)
   go_enter Tryz.func255, Tryz.ntmps255
   go_wp2_with (at_builtin; refine wpList_bytes rfl _ _ 22 rfl Tryz.underlying22 info_Byte2 rlo a _ cap b rfl rfl HA.out hlo [long] _ 1 1 rfl (by rfl) rfl (by first | rfl | simp [hwu]) HU.out (by simp) (by simp; omega) ?_; intro a2 c2 w2 happ2 hb2)
   refine (impl_PutBigL _ (b ++ [long]) n 2 a2 c2 w2.heap.size w2 (by simp) (happ2.rd (Nat.le_trans hlo hb2.size)) ⟨hn0, Or.inr (Or.inl ⟨rfl, by omega⟩)⟩ (by omega) (by simp; omega) (Nat.le_refl _)).mono ?_
   rintro e w3 ⟨a3, c3, rfl, happ3, hb3⟩
   have hs2 := hb2.size
   go_wp2_with fail
   go_ret
   exact ⟨a3, c3, ret_sl (by rw [HE.out]; first | done | rfl | (simp [bigL_len]; done) | (simp [bigL_len]; omega)), by rw [HE.out, show b ++ long :: bigL n 2 = (b ++ [long]) ++ bigL n (2 : Int).toNat from by rw [List.append_assoc]; rfl]; exact happ3.less (by omega), hb2.trans (hb3.mono (by omega))⟩
end Go.Proofs.YtggdenkmohnijaaGreatDoor
