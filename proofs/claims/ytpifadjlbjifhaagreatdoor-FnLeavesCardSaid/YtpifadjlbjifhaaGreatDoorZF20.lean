/- Texts of this proof, merged: Pack1, Pack2, Pack3. No condition beyond what each theorem states. -/
import Derived.Test.YtpifadjlbjifhaaGreatDoorRows
import Derived.WalkKit
import Derived.ProofKit
import Derived.OpenShut
import Derived.Handy
import Derived.Lib.Hide
import Derived.Lib.SmallJoins
import Derived.Deep.RegionHeld3
import Derived.Deep.QuietTactic
import Derived.BigQuiet
import Derived.Laws.Bits64
import Derived.Laws.Bits64b
import Derived.Deep.CutBlock
import Derived.Deep.DeepCutAuto
import Derived.Lib.AppendStr
import Derived.Lib.AppendZeros
import Derived.Test.YtpifadjlbjifhaaGreatDoorZF1
import Derived.Test.YtpifadjlbjifhaaGreatDoorZF2
import Derived.Test.YtpifadjlbjifhaaGreatDoorZF3
import Derived.Test.YtpifadjlbjifhaaGreatDoorZF4
import Derived.Test.YtpifadjlbjifhaaGreatDoorZF17
import Derived.Test.YtpifadjlbjifhaaGreatDoorZF18
import Derived.Test.YtpifadjlbjifhaaGreatDoorZF19
import Derived.Test.YtpifadjlbjifhaaGreatDoorZF13
import Derived.Test.YtpifadjlbjifhaaGreatDoorZF5
import Derived.Deep.RegionWith
set_option linter.unusedSimpArgs false
set_option linter.unnecessarySimpa false
namespace Go.Proofs.YtpifadjlbjifhaaGreatDoor
open Go.ChangeShapes Go.WideShapes Go.ChangeAt Go.RowKit Go.Joins
set_option linter.unusedVariables false
set_option maxRecDepth 100000
section
variable {α : Type} {E : World → Nat → Nat → α → List Nat → Prop} {n : Nat} {e : TypeId}
/-- append(p, q...) at a step of a region that draws, in whatever world, q empty or not. -/
theorem step_appLR {P : Program} {w : World} (hE : Elem E n) {ops : Array Oper} {o : Oper} {act : Act} {K : Act → World → Prop} {Q : Exit → Act → World → Prop} {X : Prop} (hgd : o.guard = none) (s x : Operand) (t : TypeId)
    (ho : o.op = .call { callee := .builtin .append, args := #[s, x], argTypes := #[t, t] }) (z : Value) (bytes : Nat) (ht : P.underlying t = some (.slice e)) (hinfo : (P.info? e).map (fun i => (i.zero, i.size, i.bytes)) = some (some z, n, bytes)) (hzs : z.cells.size = n)
    (rlo : Nat) (a : Option Addr) (len cap : Nat) (l : List α) (F : List Nat) (hs : act.eval s = .slice a len cap) (hlen : len = l.length) (happ : AppL E n e w rlo a cap l F) (hlo : rlo ≤ w.heap.size)
    (a2 : Option Addr) (len2 c2 : Nat) (ys : List α) (G : List Nat) (hx : act.eval x = .slice a2 len2 c2) (hlen2 : len2 = ys.length) (hys : Srcs E n w a2 ys G) (hG : ∀ f ∈ G, f < rlo) (h63 : l.length + ys.length ≤ maxLen) (hbytes : (l.length + ys.length) * bytes ≤ 140737488355328)
    (h : ∀ a' cap' w', AppL E n e w' rlo a' cap' (l ++ ys) (F ++ G) → Below rlo w w' → (∀ f, f < w.heap.size → (∀ k, (Value.slice a l.length cap).ownBlock = some k → f ≠ k) → w'.heap[f]? = w.heap[f]?) → w.heap.size ≤ w'.heap.size → K (act.put o.dst (.slice a' (l ++ ys).length cap')) w') : if Region.wanted o (yielded ops act.tmps) = true then Oper.wp P o act w K Q else X := by
  subst hlen hlen2
  obtain ⟨a', c', w', hrun, r1, r2, r3, r4, r5⟩ := run_appL (P := P) w hE t o.type z bytes ht hinfo hzs rlo a cap l F happ hlo happ.cap.1 a2 c2 ys G hys hG h63 hbytes
  exact step_append_run w hgd s x t t ho _ _ hs hx _ _ hrun (h a' c' w' r1 r2 r3 r5)
theorem AppL.emptyIs {w : World} {g rlo : Nat} (h : Is w g e #[]) (hl : rlo ≤ g) : AppL E n e w rlo (Option.some ⟨g, 0, none⟩) 0 [] [] :=
  Or.inr ⟨g, #[], rfl, hl, h, Nat.le_refl _, by simp [maxLen], by simp, rfl, by simp⟩
theorem AppL.agreeB (hE : Elem E n) {w w' : World} {rlo cap : Nat} {a : Option Addr} {l : List α} (h : AppL E n e w rlo a cap l []) (hw : ∀ f, rlo ≤ f → f < w.heap.size → w'.heap[f]? = w.heap[f]?) : AppL E n e w' rlo a cap l [] := by
  rcases h with h | ⟨g, cur, ha, h1, h3, h4, h5, h6, h7, h8⟩
  · exact Or.inl h
  · have hg : g < w.heap.size := (Array.getElem?_eq_some_iff.1 h3).1
    exact Or.inr ⟨g, cur, ha, h1, (hw g h1 hg).trans h3, h4, h5, h6, h7.agree hE.loc l (Cells.of_block (hw g h1 hg) _ _) (fun f hf => by cases hf), h8⟩
end
theorem Is.ofSame {w w' : World} {g : Nat} {e : TypeId} {cs : Array Value} (hs : w'.heap[g]? = w.heap[g]?) (h : Is w g e cs) : Is w' g e cs := hs.trans h
theorem impl_PutBigL (len : Nat) (b : List Int) (n k : Int) (a : Option Addr) (cap B : Nat) (w : World) (hl : len = b.length) (hr : Rd EByte 1 w B a cap b) (hf : fitW n k) (hn : n ≤ 9223372036854775807) (hz : b.length ≤ 1099511627776) (hB : B ≤ w.heap.size) :
    Calls Tryz.prog 218 #[.slice a len cap, .int .i64 n, .int .i64 k] w fun e w' => ∃ a' cap', e = .returned (.slice a' (b ++ bigL n k.toNat).length cap') ∧ AppL EByte 1 5 w' w.heap.size a' cap' (b ++ bigL n k.toNat) [] ∧ Below w.heap.size w w' := by
  subst hl; exact impl_PutBig b n k a cap B w hr hf hn hz hB
set_option maxHeartbeats 16000000 in
theorem impl_PutHead (b : List Int) (m n k : Int) (a : Option Addr) (cap B : Nat) (w : World) (hr : Rd EByte 1 w B a cap b) (hn : I64 n) (hz : b.length ≤ 1073741824) (hB : B ≤ w.heap.size) :
    Calls Tryz.prog 208 #[.slice a b.length cap, .agg (cH m n k)] w fun e w' => ∃ a' cap', e = .returned (.slice a' (b ++ headL m n k).length cap') ∧ AppL EByte 1 5 w' w.heap.size a' cap' (b ++ headL m n k) [] ∧ Below w.heap.size w w' := by
  have q0 := Is.new w (cH m n k) 193
  have HB0 := Lib.hid (below1 w (.cells (cH m n k) 193))
  have lg : w.heap.size < (w.alloc (.cells (cH m n k) 193)).heap.size := by simp
  obtain ⟨c10, c11, c12⟩ := q0.cells3
  obtain ⟨bb, hbb⟩ : ∃ r, decide (headOk m n k) = r := ⟨_, rfl⟩
  have HBB := Lib.hid hbb
  have HN := Lib.hid hn
  have HR := Lib.hid hr
  clear hbb hr hn
  go_enter Tryz.func208, Tryz.ntmps208
  go_wp2_with fail
  refine (impl_HeadOk m n k _ HN.out).mono ?_
  rintro ee w2 ⟨rfl, hb2⟩
  rw [HBB.out]
  have q2 := q0.below hb2 lg
  obtain ⟨d0, d1, d2⟩ := q2.cells3
  have lg2 : w.heap.size < w2.heap.size := q2.lt
  have HB2 := Lib.hid (HB0.out.trans (hb2.mono (by simp)))
  have HR2 := Lib.hid (HR.out.below EByte.loc HB2.out hB)
  have Q2 := Lib.hid q2
  clear c10 c11 c12 hb2 q0 q2 lg HR HB0
  cases bb with
  | false =>
    have HE := Lib.hid (show b ++ headL m n k = b from by unfold headL; rw [if_neg (of_decide_eq_false HBB.out), List.append_nil])
    obtain ⟨a1, c1, w1, hrun, happ, hb1⟩ := copyB w2 b a cap B HR2.out (by omega) (by omega)
    have HA1 := Lib.hid happ
    have HB1 := Lib.hid (HB2.out.trans (hb1.mono (by omega)))
    clear happ hb1
    go_wp2_with (at_builtin; refine Lib.wpList_append_run _ rfl _ _ _ _ rfl _ _ rfl rfl _ _ hrun ?_)
    go_ret
    exact ⟨a1, c1, ret_sl (by rw [HE.out]; first | done | rfl | simp), by rw [HE.out]; exact HA1.out.less (by omega), HB1.out⟩
  | true =>
    have hok := of_decide_eq_true HBB.out
    have hin := infoD_in hok
    have HE := Lib.hid (show b ++ headL m n k = (b ++ [32 * m + infoD n k]) ++ bigL n k.toNat from by unfold headL; rw [if_pos hok, List.append_assoc]; rfl)
    have HF := Lib.hid (fun h => headOk_fit hok h)
    obtain ⟨hm, hn2, hkk⟩ := hok
    have CI := Lib.hid (fun W => impl_info m n k W)
    obtain ⟨I, hI⟩ : ∃ I, infoD n k = I := ⟨_, rfl⟩
    rw [hI] at HE hin CI
    have hwu : IntKind.u8.wrap (32 * m + I) = 32 * m + I := by rw [IntKind.wrap_u8]; omega
    have hwv : IntKind.u8.wrap (IntKind.i64.wrap (IntKind.i64.wrap (32 * m) + I)) = 32 * m + I := by
      rw [show IntKind.i64.wrap (32 * m) = 32 * m from by rw [Go.IntWalk.i64_left]; exact Go.IntWalk.wrap64_in _ ⟨by omega, by omega⟩, show IntKind.i64.wrap (32 * m + I) = 32 * m + I from by rw [Go.IntWalk.i64_left]; exact Go.IntWalk.wrap64_in _ ⟨by omega, by omega⟩]; exact hwu
    have HU : Hid (U8 (32 * m + I)) := Lib.hid (by unfold U8; omega)
    clear hkk hI
    go_wp2_with fail
    refine wp_region_held_drew (S := fun w' => (∀ b o, b < w2.heap.size → w'.cell? ⟨b, o, none⟩ = w2.cell? ⟨b, o, none⟩) ∧ Below (w2.heap.size) w2 w') (by kernel_rfl) (by first | exact ⟨fun _ _ _ => rfl, (Below.refl _ _).drew⟩ | exact keep_step (by assumption) (Below.drew (Below.refl _ _)) (Nat.le_refl _) | exact keep_step (by assumption) (by assumption) (by first | omega | (simp only [World.size_drew]; omega) | (simp only [size_alloc]; omega) | (simp only [World.size_drew, size_alloc]; omega) | (have := (‹(_ ∧ Below (w2.heap.size) w2 _)›).2.size; first | omega | (simp only [World.size_drew]; omega) | (simp only [size_alloc]; omega) | (simp only [World.size_drew, size_alloc]; omega) | (simp only [World.size_drew] at this; omega) | (simp only [size_alloc] at this; omega) | (simp only [World.size_drew, size_alloc] at this; omega)))) (fun hHeld => ?_)
    refine wpAnyH_take (i := 1) (oi := ⟨some 13, _, _, _, _, _⟩) (v := ?_) rfl (by kernel_rfl) (by kernel_rfl) (by kernel_rfl) (fun _ _ _ h => h) (Or.inl ⟨by rfl, ?_⟩) (by assumption) ?_
    rotate_left 1
    · (intro w hSw; (try dsimp only at hSw); go_simp; try (with_reducible rfl))
    try simp only [Act.put, List.setIfInBounds_toArray, List.set_cons_zero, List.set_cons_succ]
    refine wpAnyH_take (i := 3) (oi := ⟨some 15, _, _, _, _, _⟩) (v := ?_) rfl (by kernel_rfl) (by kernel_rfl) (by kernel_rfl) (fun _ _ _ h => h) (Or.inl ⟨by rfl, ?_⟩) (by assumption) ?_
    rotate_left 1
    · (intro w hSw; (try dsimp only at hSw); go_simp; try (with_reducible rfl))
    try simp only [Act.put, List.setIfInBounds_toArray, List.set_cons_zero, List.set_cons_succ]
    refine wpAnyH_take (i := 4) (oi := ⟨some 16, _, _, _, _, _⟩) (v := ?_) rfl (by kernel_rfl) (by kernel_rfl) (by kernel_rfl) (fun _ _ _ h => h) (Or.inl ⟨by rfl, ?_⟩) (by assumption) ?_
    rotate_left 1
    · (intro w hSw; (try dsimp only at hSw); go_simp; try (with_reducible rfl))
    try simp only [Act.put, List.setIfInBounds_toArray, List.set_cons_zero, List.set_cons_succ]
    refine wpAnyH_take (i := 5) (oi := ⟨some 17, _, _, _, _, _⟩) (v := ?_) rfl (by kernel_rfl) (by kernel_rfl) (by kernel_rfl) (fun _ _ _ h => h) (Or.inl ⟨by rfl, ?_⟩) (by assumption) ?_
    rotate_left 1
    · (intro w hSw; (try dsimp only at hSw); go_simp; try (with_reducible rfl))
    try simp only [Act.put, List.setIfInBounds_toArray, List.set_cons_zero, List.set_cons_succ]
    refine wpAnyH_take (i := 6) (oi := ⟨some 18, _, _, _, _, _⟩) (v := ?_) rfl (by kernel_rfl) (by kernel_rfl) (by kernel_rfl) (fun _ _ _ h => h) (Or.inl ⟨by rfl, ?_⟩) (by assumption) ?_
    rotate_left 1
    · (intro w hSw; (try dsimp only at hSw); go_simp; try (with_reducible rfl))
    try simp only [Act.put, List.setIfInBounds_toArray, List.set_cons_zero, List.set_cons_succ]
    refine wpAnyH_ready (rs := [0]) (by kernel_rfl) (by simp) ?_
    refine AllReadyH.cons (o := ⟨some 12, _, _, _, _, _⟩) rfl (fun K hK => ?_) AllReadyH.nil
    go_simp
    go_wp2_with fail
    refine hK.out _ _ (by first | (with_reducible exact keep_step (by assumption) (below1 _ _) (by first | omega | (simp only [World.size_drew]; omega) | (simp only [size_alloc]; omega) | (simp only [World.size_drew, size_alloc]; omega) | (have := (‹(_ ∧ Below (w2.heap.size) w2 _)›).2.size; first | omega | (simp only [World.size_drew]; omega) | (simp only [size_alloc]; omega) | (simp only [World.size_drew, size_alloc]; omega) | (simp only [World.size_drew] at this; omega) | (simp only [size_alloc] at this; omega) | (simp only [World.size_drew, size_alloc] at this; omega)))) | (exact keep_step (by assumption) (below1 _ _) (by first | omega | (simp only [World.size_drew]; omega) | (simp only [size_alloc]; omega) | (simp only [World.size_drew, size_alloc]; omega) | (have := (‹(_ ∧ Below (w2.heap.size) w2 _)›).2.size; first | omega | (simp only [World.size_drew]; omega) | (simp only [size_alloc]; omega) | (simp only [World.size_drew, size_alloc]; omega) | (simp only [World.size_drew] at this; omega) | (simp only [size_alloc] at this; omega) | (simp only [World.size_drew, size_alloc] at this; omega))))) (fun hHeld => ?_)
    clear hK K
    try simp only [Act.put, List.setIfInBounds_toArray, List.set_cons_zero, List.set_cons_succ]
    refine wpAnyH_ready (rs := [2]) (by kernel_rfl) (by simp) ?_
    refine AllReadyH.cons (o := ⟨some 14, _, _, _, _, _⟩) rfl (fun K hK => ?_) AllReadyH.nil
    focus ((first | (go_at_call 217; refine (CI.out _).mono ?_; rintro e w3 ⟨rfl, hb3⟩; have hsz3 := hb3.size; (try simp only [World.size_drew, size_alloc] at hsz3)) | (refine step_appLR EByte.elem rfl _ _ 22 rfl (.int .u8 0) 1 Tryz.underlying22 info_Byte2 rfl w2.heap.size (some ⟨_, 0, none⟩) 0 0 [] [] rfl rfl (by first | exact AppL.emptyIs (Is.new _ _ _) (by first | omega | (simp only [World.size_drew]; omega) | (simp only [size_alloc]; omega) | (simp only [World.size_drew, size_alloc]; omega)) | exact AppL.emptyIs ((Is.new _ _ _).below hb3 (by first | omega | (simp only [World.size_drew]; omega) | (simp only [size_alloc]; omega) | (simp only [World.size_drew, size_alloc]; omega))) (by first | omega | (simp only [World.size_drew]; omega) | (simp only [size_alloc]; omega) | (simp only [World.size_drew, size_alloc]; omega)) | exact AppL.emptyIs ((Is.new _ _ _).alloc _) (by first | omega | (simp only [World.size_drew]; omega) | (simp only [size_alloc]; omega) | (simp only [World.size_drew, size_alloc]; omega)) | exact AppL.emptyIs (Is.new2 _ _ _ _) (by first | omega | (simp only [World.size_drew]; omega) | (simp only [size_alloc]; omega) | (simp only [World.size_drew, size_alloc]; omega)) | exact AppL.emptyIs (((Is.new _ _ _).below hb3 (by first | omega | (simp only [World.size_drew]; omega) | (simp only [size_alloc]; omega) | (simp only [World.size_drew, size_alloc]; omega))).alloc _) (by first | omega | (simp only [World.size_drew]; omega) | (simp only [size_alloc]; omega) | (simp only [World.size_drew, size_alloc]; omega))) (by have := (‹_ ∧ Below (w2.heap.size) w2 _›).2.size; (first | omega | (simp only [World.size_drew]; omega) | (simp only [size_alloc]; omega) | (simp only [World.size_drew, size_alloc]; omega) | (simp only [World.size_drew, size_alloc] at this ⊢; omega))) a b.length cap b [] rfl rfl ((HR2.out.below EByte.loc (‹_ ∧ Below (w2.heap.size) w2 _›).2 (by omega)).srcs EByte.flat) (by simp) (by simp [maxLen]; omega) (by simp; omega) ?_; intro a4 c4 w4 happ4 hb4 hout4 hsz4; (try simp only [World.size_drew, size_alloc] at hsz4)) | (refine step_appLX EByte.elem rfl _ _ 22 rfl (.int .u8 0) 1 Tryz.underlying22 info_Byte2 rfl w2.heap.size a4 c4 b [] rfl (by first | exact happ4 | exact happ4.agree EByte.elem (fun f hf => (below1 _ _).block f hf) (by first | omega | (simp only [World.size_drew]; omega) | (simp only [size_alloc]; omega) | (simp only [World.size_drew, size_alloc]; omega)) | exact (happ4.agree EByte.elem (fun f hf => hb3.block f hf) (by first | omega | (simp only [World.size_drew]; omega) | (simp only [size_alloc]; omega) | (simp only [World.size_drew, size_alloc]; omega))).agree EByte.elem (fun f hf => (below1 _ _).block f hf) (by first | omega | (simp only [World.size_drew]; omega) | (simp only [size_alloc]; omega) | (simp only [World.size_drew, size_alloc]; omega))) (by have := (‹_ ∧ Below (w2.heap.size) w2 _›).2.size; (first | omega | (simp only [World.size_drew]; omega) | (simp only [size_alloc]; omega) | (simp only [World.size_drew, size_alloc]; omega) | (simp only [World.size_drew, size_alloc] at this ⊢; omega))) _ 0 1 1 [32 * m + I] [] rfl rfl ⟨[], [], rfl, ⟨rfl, ((Is.new _ _ _).cell 0 rfl), HU.out⟩, rfl⟩ (by simp) (by omega) (by unfold maxLen; omega) (by omega) ?_; intro a5 c5 w5 happ5 hb5 hout5)); refine hK.out _ _ (by first | (with_reducible exact keep_step (by assumption) (by assumption) (by first | omega | (simp only [World.size_drew]; omega) | (simp only [size_alloc]; omega) | (simp only [World.size_drew, size_alloc]; omega) | (have := (‹(_ ∧ Below (w2.heap.size) w2 _)›).2.size; first | omega | (simp only [World.size_drew]; omega) | (simp only [size_alloc]; omega) | (simp only [World.size_drew, size_alloc]; omega) | (simp only [World.size_drew] at this; omega) | (simp only [size_alloc] at this; omega) | (simp only [World.size_drew, size_alloc] at this; omega)))) | first | exact ⟨fun _ _ _ => rfl, (Below.refl _ _).drew⟩ | exact keep_step (by assumption) (Below.drew (Below.refl _ _)) (Nat.le_refl _) | exact keep_step (by assumption) (by assumption) (by first | omega | (simp only [World.size_drew]; omega) | (simp only [size_alloc]; omega) | (simp only [World.size_drew, size_alloc]; omega) | (have := (‹(_ ∧ Below (w2.heap.size) w2 _)›).2.size; first | omega | (simp only [World.size_drew]; omega) | (simp only [size_alloc]; omega) | (simp only [World.size_drew, size_alloc]; omega) | (simp only [World.size_drew] at this; omega) | (simp only [size_alloc] at this; omega) | (simp only [World.size_drew, size_alloc] at this; omega)))) (fun hHeld => ?_); clear hK K; try simp only [Act.put, List.setIfInBounds_toArray, List.set_cons_zero, List.set_cons_succ])
    refine wpAnyH_ready (rs := [7]) (by kernel_rfl) (by simp) ?_
    refine AllReadyH.cons (o := ⟨some 19, _, _, _, _, _⟩) rfl (fun K hK => ?_) AllReadyH.nil
    focus (go_simp; (first | (go_at_call 217; refine (CI.out _).mono ?_; rintro e w3 ⟨rfl, hb3⟩; have hsz3 := hb3.size; (try simp only [World.size_drew, size_alloc] at hsz3)) | (refine step_appLR EByte.elem rfl _ _ 22 rfl (.int .u8 0) 1 Tryz.underlying22 info_Byte2 rfl w2.heap.size (some ⟨_, 0, none⟩) 0 0 [] [] rfl rfl (by first | exact AppL.emptyIs (Is.new _ _ _) (by first | omega | (simp only [World.size_drew]; omega) | (simp only [size_alloc]; omega) | (simp only [World.size_drew, size_alloc]; omega)) | exact AppL.emptyIs ((Is.new _ _ _).below hb3 (by first | omega | (simp only [World.size_drew]; omega) | (simp only [size_alloc]; omega) | (simp only [World.size_drew, size_alloc]; omega))) (by first | omega | (simp only [World.size_drew]; omega) | (simp only [size_alloc]; omega) | (simp only [World.size_drew, size_alloc]; omega)) | exact AppL.emptyIs ((Is.new _ _ _).alloc _) (by first | omega | (simp only [World.size_drew]; omega) | (simp only [size_alloc]; omega) | (simp only [World.size_drew, size_alloc]; omega)) | exact AppL.emptyIs (Is.new2 _ _ _ _) (by first | omega | (simp only [World.size_drew]; omega) | (simp only [size_alloc]; omega) | (simp only [World.size_drew, size_alloc]; omega)) | exact AppL.emptyIs (((Is.new _ _ _).below hb3 (by first | omega | (simp only [World.size_drew]; omega) | (simp only [size_alloc]; omega) | (simp only [World.size_drew, size_alloc]; omega))).alloc _) (by first | omega | (simp only [World.size_drew]; omega) | (simp only [size_alloc]; omega) | (simp only [World.size_drew, size_alloc]; omega))) (by have := (‹_ ∧ Below (w2.heap.size) w2 _›).2.size; (first | omega | (simp only [World.size_drew]; omega) | (simp only [size_alloc]; omega) | (simp only [World.size_drew, size_alloc]; omega) | (simp only [World.size_drew, size_alloc] at this ⊢; omega))) a b.length cap b [] rfl rfl ((HR2.out.below EByte.loc (‹_ ∧ Below (w2.heap.size) w2 _›).2 (by omega)).srcs EByte.flat) (by simp) (by simp [maxLen]; omega) (by simp; omega) ?_; intro a4 c4 w4 happ4 hb4 hout4 hsz4; (try simp only [World.size_drew, size_alloc] at hsz4)) | (refine step_appLX EByte.elem rfl _ _ 22 rfl (.int .u8 0) 1 Tryz.underlying22 info_Byte2 rfl w2.heap.size a4 c4 b [] rfl (by first | exact happ4 | exact happ4.agree EByte.elem (fun f hf => (below1 _ _).block f hf) (by first | omega | (simp only [World.size_drew]; omega) | (simp only [size_alloc]; omega) | (simp only [World.size_drew, size_alloc]; omega)) | exact (happ4.agree EByte.elem (fun f hf => hb3.block f hf) (by first | omega | (simp only [World.size_drew]; omega) | (simp only [size_alloc]; omega) | (simp only [World.size_drew, size_alloc]; omega))).agree EByte.elem (fun f hf => (below1 _ _).block f hf) (by first | omega | (simp only [World.size_drew]; omega) | (simp only [size_alloc]; omega) | (simp only [World.size_drew, size_alloc]; omega))) (by have := (‹_ ∧ Below (w2.heap.size) w2 _›).2.size; (first | omega | (simp only [World.size_drew]; omega) | (simp only [size_alloc]; omega) | (simp only [World.size_drew, size_alloc]; omega) | (simp only [World.size_drew, size_alloc] at this ⊢; omega))) _ 0 1 1 [32 * m + I] [] rfl rfl ⟨[], [], rfl, ⟨rfl, ((Is.new _ _ _).cell 0 rfl), HU.out⟩, rfl⟩ (by simp) (by omega) (by unfold maxLen; omega) (by omega) ?_; intro a5 c5 w5 happ5 hb5 hout5)); go_wp2_with fail; refine hK.out _ _ (by first | exact ⟨fun _ _ _ => rfl, (Below.refl _ _).drew⟩ | exact keep_step (by assumption) (Below.drew (Below.refl _ _)) (Nat.le_refl _) | exact keep_step (by assumption) (by assumption) (by first | omega | (simp only [World.size_drew]; omega) | (simp only [size_alloc]; omega) | (simp only [World.size_drew, size_alloc]; omega) | (have := (‹(_ ∧ Below (w2.heap.size) w2 _)›).2.size; first | omega | (simp only [World.size_drew]; omega) | (simp only [size_alloc]; omega) | (simp only [World.size_drew, size_alloc]; omega) | (simp only [World.size_drew] at this; omega) | (simp only [size_alloc] at this; omega) | (simp only [World.size_drew, size_alloc] at this; omega)))) (fun hHeld => ?_); clear hK K; try simp only [Act.put, List.setIfInBounds_toArray, List.set_cons_zero, List.set_cons_succ])
    refine wpAnyH_take (i := 8) (oi := ⟨some 20, _, _, _, _, _⟩) (v := ?_) rfl (by kernel_rfl) (by kernel_rfl) (by kernel_rfl) (fun _ _ _ h => h) (Or.inl ⟨by rfl, ?_⟩) (by assumption) ?_
    rotate_left 1
    · (intro w hSw; (try dsimp only at hSw); go_simp; try (with_reducible rfl))
    try simp only [Act.put, List.setIfInBounds_toArray, List.set_cons_zero, List.set_cons_succ]
    refine wpAnyH_take (i := 9) (oi := ⟨some 21, _, _, _, _, _⟩) (v := ?_) rfl (by kernel_rfl) (by kernel_rfl) (by kernel_rfl) (fun _ _ _ h => h) (Or.inl ⟨by rfl, ?_⟩) (by assumption) ?_
    rotate_left 1
    · (intro w hSw; (try dsimp only at hSw); go_simp; try (with_reducible rfl))
    try simp only [Act.put, List.setIfInBounds_toArray, List.set_cons_zero, List.set_cons_succ]
    refine wpAnyH_ready (rs := [10]) (by kernel_rfl) (by simp) ?_
    refine AllReadyH.cons (o := ⟨some 22, _, _, _, _, _⟩) rfl (fun K hK => ?_) AllReadyH.nil
    focus (go_simp; go_wp2_with fail; refine hK.out _ _ (by first | (with_reducible exact keep_step (by assumption) (below1 _ _) (by first | omega | (simp only [World.size_drew]; omega) | (simp only [size_alloc]; omega) | (simp only [World.size_drew, size_alloc]; omega) | (have := (‹(_ ∧ Below (w2.heap.size) w2 _)›).2.size; first | omega | (simp only [World.size_drew]; omega) | (simp only [size_alloc]; omega) | (simp only [World.size_drew, size_alloc]; omega) | (simp only [World.size_drew] at this; omega) | (simp only [size_alloc] at this; omega) | (simp only [World.size_drew, size_alloc] at this; omega)))) | (exact keep_step (by assumption) (below1 _ _) (by first | omega | (simp only [World.size_drew]; omega) | (simp only [size_alloc]; omega) | (simp only [World.size_drew, size_alloc]; omega) | (have := (‹(_ ∧ Below (w2.heap.size) w2 _)›).2.size; first | omega | (simp only [World.size_drew]; omega) | (simp only [size_alloc]; omega) | (simp only [World.size_drew, size_alloc]; omega) | (simp only [World.size_drew] at this; omega) | (simp only [size_alloc] at this; omega) | (simp only [World.size_drew, size_alloc] at this; omega))))) (fun hHeld => ?_); clear hK K; try simp only [Act.put, List.setIfInBounds_toArray, List.set_cons_zero, List.set_cons_succ])
    refine wpAnyH_ready (rs := [11]) (by kernel_rfl) (by simp) ?_
    refine AllReadyH.cons (o := ⟨some 23, _, _, _, _, _⟩) rfl (fun K hK => ?_) AllReadyH.nil
    focus ((first | (go_at_call 217; refine (CI.out _).mono ?_; rintro e w3 ⟨rfl, hb3⟩; have hsz3 := hb3.size; (try simp only [World.size_drew, size_alloc] at hsz3)) | (refine step_appLR EByte.elem rfl _ _ 22 rfl (.int .u8 0) 1 Tryz.underlying22 info_Byte2 rfl w2.heap.size (some ⟨_, 0, none⟩) 0 0 [] [] rfl rfl (by first | exact AppL.emptyIs (Is.new _ _ _) (by first | omega | (simp only [World.size_drew]; omega) | (simp only [size_alloc]; omega) | (simp only [World.size_drew, size_alloc]; omega)) | exact AppL.emptyIs ((Is.new _ _ _).below hb3 (by first | omega | (simp only [World.size_drew]; omega) | (simp only [size_alloc]; omega) | (simp only [World.size_drew, size_alloc]; omega))) (by first | omega | (simp only [World.size_drew]; omega) | (simp only [size_alloc]; omega) | (simp only [World.size_drew, size_alloc]; omega)) | exact AppL.emptyIs ((Is.new _ _ _).alloc _) (by first | omega | (simp only [World.size_drew]; omega) | (simp only [size_alloc]; omega) | (simp only [World.size_drew, size_alloc]; omega)) | exact AppL.emptyIs (Is.new2 _ _ _ _) (by first | omega | (simp only [World.size_drew]; omega) | (simp only [size_alloc]; omega) | (simp only [World.size_drew, size_alloc]; omega)) | exact AppL.emptyIs (((Is.new _ _ _).below hb3 (by first | omega | (simp only [World.size_drew]; omega) | (simp only [size_alloc]; omega) | (simp only [World.size_drew, size_alloc]; omega))).alloc _) (by first | omega | (simp only [World.size_drew]; omega) | (simp only [size_alloc]; omega) | (simp only [World.size_drew, size_alloc]; omega))) (by have := (‹_ ∧ Below (w2.heap.size) w2 _›).2.size; (first | omega | (simp only [World.size_drew]; omega) | (simp only [size_alloc]; omega) | (simp only [World.size_drew, size_alloc]; omega) | (simp only [World.size_drew, size_alloc] at this ⊢; omega))) a b.length cap b [] rfl rfl ((HR2.out.below EByte.loc (‹_ ∧ Below (w2.heap.size) w2 _›).2 (by omega)).srcs EByte.flat) (by simp) (by simp [maxLen]; omega) (by simp; omega) ?_; intro a4 c4 w4 happ4 hb4 hout4 hsz4; (try simp only [World.size_drew, size_alloc] at hsz4)) | (refine step_appLX EByte.elem rfl _ _ 22 rfl (.int .u8 0) 1 Tryz.underlying22 info_Byte2 rfl w2.heap.size a4 c4 b [] rfl (by first | exact happ4 | exact happ4.agree EByte.elem (fun f hf => (below1 _ _).block f hf) (by first | omega | (simp only [World.size_drew]; omega) | (simp only [size_alloc]; omega) | (simp only [World.size_drew, size_alloc]; omega)) | exact (happ4.agree EByte.elem (fun f hf => hb3.block f hf) (by first | omega | (simp only [World.size_drew]; omega) | (simp only [size_alloc]; omega) | (simp only [World.size_drew, size_alloc]; omega))).agree EByte.elem (fun f hf => (below1 _ _).block f hf) (by first | omega | (simp only [World.size_drew]; omega) | (simp only [size_alloc]; omega) | (simp only [World.size_drew, size_alloc]; omega))) (by have := (‹_ ∧ Below (w2.heap.size) w2 _›).2.size; (first | omega | (simp only [World.size_drew]; omega) | (simp only [size_alloc]; omega) | (simp only [World.size_drew, size_alloc]; omega) | (simp only [World.size_drew, size_alloc] at this ⊢; omega))) _ 0 1 1 [32 * m + I] [] rfl rfl ⟨[], [], rfl, ⟨rfl, ((Is.new _ _ _).cell 0 rfl), HU.out⟩, rfl⟩ (by simp) (by omega) (by unfold maxLen; omega) (by omega) ?_; intro a5 c5 w5 happ5 hb5 hout5)); refine hK.out _ _ (by first | (with_reducible exact keep_step (by assumption) (by assumption) (by first | omega | (simp only [World.size_drew]; omega) | (simp only [size_alloc]; omega) | (simp only [World.size_drew, size_alloc]; omega) | (have := (‹(_ ∧ Below (w2.heap.size) w2 _)›).2.size; first | omega | (simp only [World.size_drew]; omega) | (simp only [size_alloc]; omega) | (simp only [World.size_drew, size_alloc]; omega) | (simp only [World.size_drew] at this; omega) | (simp only [size_alloc] at this; omega) | (simp only [World.size_drew, size_alloc] at this; omega)))) | first | exact ⟨fun _ _ _ => rfl, (Below.refl _ _).drew⟩ | exact keep_step (by assumption) (Below.drew (Below.refl _ _)) (Nat.le_refl _) | exact keep_step (by assumption) (by assumption) (by first | omega | (simp only [World.size_drew]; omega) | (simp only [size_alloc]; omega) | (simp only [World.size_drew, size_alloc]; omega) | (have := (‹(_ ∧ Below (w2.heap.size) w2 _)›).2.size; first | omega | (simp only [World.size_drew]; omega) | (simp only [size_alloc]; omega) | (simp only [World.size_drew, size_alloc]; omega) | (simp only [World.size_drew] at this; omega) | (simp only [size_alloc] at this; omega) | (simp only [World.size_drew, size_alloc] at this; omega)))) (fun hHeld => ?_); clear hK K; try simp only [Act.put, List.setIfInBounds_toArray, List.set_cons_zero, List.set_cons_succ])
    refine wpAnyH_take (i := 12) (oi := ⟨some 5, _, _, _, _, _⟩) (v := ?_) rfl (by kernel_rfl) (by kernel_rfl) (by kernel_rfl) (fun _ _ _ h => h) (Or.inl ⟨by rfl, ?_⟩) (by assumption) ?_
    rotate_left 1
    · (intro w hSw; (try dsimp only at hSw); go_simp; try (with_reducible rfl))
    try simp only [Act.put, List.setIfInBounds_toArray, List.set_cons_zero, List.set_cons_succ]
    refine wpAnyH_done (by kernel_rfl) ?_ _
    all_goals
      have hBB := (‹_ ∧ Below (w2.heap.size) w2 _›).2
      have hs5 := hBB.size
      have HA5 := Lib.hid (happ5.less (show w.heap.size ≤ _ by omega))
      have HR5 := Lib.hid (happ5.rd (show w2.heap.size ≤ _ by omega))
      have HB5 := Lib.hid (HB2.out.trans (hBB.mono (by omega)))
      have q5 := Q2.out.below hBB (by omega)
      obtain ⟨f0, f1, f2⟩ := q5.cells3
      have lg5 := q5.lt
      clear happ5 hBB q5
      by_cases hk0 : 0 < k
      · have HFW := Lib.hid (HF.out hk0)
        go_wp2_with fail
        refine (impl_PutBigL (b.length + 1) (b ++ [32 * m + I]) n k _ _ _ _ (by simp) HR5.out HFW.out HN.out.2 (by simp; omega) (Nat.le_refl _)).mono ?_
        rintro ee w6 ⟨a6, c6, rfl, happ6, hb6⟩
        have HA6 := Lib.hid happ6
        have HB6 := Lib.hid (HB5.out.trans (hb6.mono (by omega)))
        clear happ6 hb6
        go_wp2_with fail
        go_ret
        exact ⟨a6, c6, ret_sl (by rw [HE.out, List.length_append, List.length_append, List.length_singleton]; omega), by rw [HE.out]; exact HA6.out.less (by omega), HB6.out⟩
      · have HE2 : Hid (b ++ headL m n k = b ++ [32 * m + I]) := Lib.hid (by rw [HE.out, show k.toNat = 0 from by omega, bigL, List.append_nil])
        go_wp2_with fail
        go_ret
        exact ⟨a5, c5, ret_sl (by have h := congrArg List.length HE2.out; simp only [List.length_append, List.length_singleton] at h ⊢; omega), by rw [HE2.out]; exact HA5.out, HB5.out⟩
end Go.Proofs.YtpifadjlbjifhaaGreatDoor
namespace Go.Proofs.YtpifadjlbjifhaaGreatDoor
open Go.ChangeShapes Go.WideShapes Go.ChangeAt Go.RowKit Go.Joins
set_option linter.unusedVariables false
set_option maxRecDepth 100000
/-- The packer at block g holds these bytes; it is neither wide nor open. -/
def Pk (w : World) (g : Nat) (b : List Int) : Prop := ∃ (a : Option Addr) (cap : Nat), Is w g 181 #[.slice a b.length cap, .bool false, .bool false] ∧ AppL EByte 1 5 w (g + 1) a cap b []
theorem Pk.lt {w : World} {g : Nat} {b : List Int} (h : Pk w g b) : g < w.heap.size := by obtain ⟨_, _, h, _⟩ := h; exact h.lt
theorem Pk.below {w w' : World} {g : Nat} {b : List Int} (h : Pk w g b) (hb : Below w.heap.size w w') : Pk w' g b := by
  have hl := h.lt
  obtain ⟨a, cap, h1, h2⟩ := h
  exact ⟨a, cap, h1.below hb hl, h2.agree EByte.elem (fun f hf => hb.block f hf) (by omega)⟩
/-- The field of the packer's bytes is stored anew. -/
theorem Pk.stored {w : World} {g : Nat} {b b' : List Int} {a a' : Option Addr} {cap cap' : Nat} (h : Is w g 181 #[.slice a b.length cap, .bool false, .bool false]) (h2 : AppL EByte 1 5 w (g + 1) a' cap' b' []) : Pk (w.setCell ⟨g, 0, none⟩ (.slice a' b'.length cap')) g b' :=
  ⟨a', cap', h.set 0 _, h2.agreeB EByte.elem (fun f hf _ => heap_miss _ _ _ _ (by omega) _)⟩
set_option maxHeartbeats 8000000 in
theorem impl_packHead (b : List Int) (m n k : Int) (g : Nat) (w : World) (hp : Pk w g b) (hn : I64 n) (hz : b.length ≤ 1073741824) :
    Calls Tryz.prog 200 #[.pointer (some ⟨g, 0, none⟩), .agg (cH m n k)] w fun e w' => e = .returned (.tuple #[]) ∧ Pk w' g (b ++ headL m n k) ∧ Below g w w' := by
  have hg := hp.lt
  have q0 := Is.new w (cH m n k) 193
  have HB0 := Lib.hid (below1 w (.cells (cH m n k) 193))
  have HP := Lib.hid hp
  obtain ⟨a, cap, hp1, hp2⟩ := hp
  have p1 := hp1.alloc (.cells (cH m n k) 193)
  obtain ⟨c0, c1, c2⟩ := q0.cells3
  obtain ⟨e0, e1, e2⟩ := p1.cells3
  have lg : w.heap.size < (w.alloc (.cells (cH m n k) 193)).heap.size := by simp
  have lg1 : g < (w.alloc (.cells (cH m n k) 193)).heap.size := by simp; omega
  obtain ⟨bb, hbb⟩ : ∃ r, decide (headOk m n k) = r := ⟨_, rfl⟩
  have HBB := Lib.hid hbb
  have HN := Lib.hid hn
  clear hbb hn
  go_enter Tryz.func200, Tryz.ntmps200
  go_wp2_with fail
  refine (impl_HeadOk m n k _ HN.out).mono ?_
  rintro ee w2 ⟨rfl, hb2⟩
  rw [HBB.out]
  have q2 := q0.below hb2 lg
  have p2 := p1.below hb2 lg1
  obtain ⟨d0, d1, d2⟩ := q2.cells3
  obtain ⟨f0, f1, f2⟩ := p2.cells3
  have ff := fun i => p2.frozen i
  have lg2 : w.heap.size < w2.heap.size := q2.lt
  have lg3 : g < w2.heap.size := by omega
  have HB2 := Lib.hid (HB0.out.trans (hb2.mono (by simp)))
  have HA2 := Lib.hid (hp2.agree EByte.elem (fun f hf => HB2.out.block f hf) (by omega))
  have P2 := Lib.hid p2
  clear c0 c1 c2 e0 e1 e2 hb2 q0 q2 lg lg1 HB0 p1 p2 hp1 hp2
  cases bb with
  | false =>
    have HE := Lib.hid (show b ++ headL m n k = b from by unfold headL; rw [if_neg (of_decide_eq_false HBB.out), List.append_nil])
    go_wp2_with fail
    go_end0
    exact ⟨rfl, by rw [HE.out]; exact HP.out.below HB2.out, HB2.out.mono (by omega)⟩
  | true =>
    have CP := Lib.hid (fun (W : World) (h : Below w2.heap.size w2 W) => impl_PutHead b m n k a cap w2.heap.size W ((HA2.out.rd (by omega)).below EByte.loc h (Nat.le_refl _)) HN.out hz h.size)
    go_wp2_with fail
    go_region_with (go_at_call 208; refine (CP.out _ ?_).mono ?_; (first | exact Below.refl _ _ | exact (Below.refl _ _).drew | exact below_drewN _ _ _); rintro e w3 ⟨a3, c3, rfl, happ3, hb3⟩; have hs3 := hb3.size; have p3 := P2.out.agree (hb3.block g (by first | omega | (simp only [World.size_drew]; omega))); obtain ⟨x0, x1, x2⟩ := p3.cells3; have ff3 := fun i => p3.frozen i; have lg4 := p3.lt; have HX3 := Lib.hid (show Below g w2 w3 from by first | exact hb3.mono (by omega) | exact ((Below.refl _ _).drew).trans (hb3.mono (by simp only [World.size_drew]; omega))); have HA3 := Lib.hid (happ3.less (show g + 1 ≤ _ by first | omega | (simp only [World.size_drew]; omega))); clear happ3 hb3)
    all_goals
      go_wp2_with fail
      go_end0
      have hst := Pk.stored p3 HA3.out
      rw [List.length_append] at hst
      exact ⟨rfl, hst, ((HB2.out.mono (by omega)).trans HX3.out).trans (below1s _ _ _ _)⟩
end Go.Proofs.YtpifadjlbjifhaaGreatDoor
namespace Go.Proofs.YtpifadjlbjifhaaGreatDoor
open Go.ChangeShapes Go.WideShapes Go.ChangeAt Go.RowKit Go.Joins
set_option linter.unusedVariables false
set_option maxRecDepth 100000
theorem impl_HeadForOk (m n : Int) (w : World) (hm : 0 ≤ m ∧ m ≤ 7) (hn : 0 ≤ n ∧ n ≤ 1000000000000000) :
    Calls Tryz.prog 206 #[.int .i64 m, .int .i64 n] w fun e w' => (∃ k, e = .returned (.agg (cH m n k)) ∧ hdL m n = headL m n k) ∧ Below w.heap.size w w' := by
  refine (impl_HeadFor m n w ⟨by omega, by omega⟩).mono ?_
  rintro e w' ⟨rfl, hb⟩
  refine ⟨⟨if 23 < n then widthD n else 0, ?_, ?_⟩, hb⟩
  · rw [headForD_ok hm hn]
  · unfold hdL; rw [headForD_ok hm hn]
set_option maxHeartbeats 2000000 in
theorem impl_packNumber (b : List Int) (m n : Int) (g : Nat) (w : World) (hp : Pk w g b) (hm : 0 ≤ m ∧ m ≤ 7) (hn : 0 ≤ n ∧ n ≤ 1000000000000000) (hz : b.length ≤ 1073741824) :
    Calls Tryz.prog 197 #[.pointer (some ⟨g, 0, none⟩), .int .i64 m, .int .i64 n] w fun e w' => e = .returned (.tuple #[]) ∧ Pk w' g (b ++ hdL m n) ∧ Below g w w' := by
  have hg := hp.lt
  have HP := Lib.hid hp; clear hp
  have HM := Lib.hid hm; have HN := Lib.hid hn
  go_enter Tryz.func197, Tryz.ntmps197
  go_wp2_with fail
  refine (impl_HeadForOk m n _ HM.out HN.out).mono ?_
  rintro ee w2 ⟨⟨kk, rfl, hkk⟩, hb2⟩
  have hs2 := hb2.size
  have HB2 := Lib.hid hb2
  have HKK := Lib.hid hkk
  clear hb2 hkk hm hn
  have q3 := Is.new w2 (cH m n kk) 193
  obtain ⟨c0, c1, c2⟩ := q3.cells3
  have lg3 := q3.lt
  have HP3 := Lib.hid ((HP.out.below HB2.out).below (below1 w2 (.cells (cH m n kk) 193)))
  have HB3 := Lib.hid (HB2.out.trans ((below1 w2 (.cells (cH m n kk) 193)).mono hs2))
  go_wp2_with fail
  refine (impl_packHead b m n kk g _ HP3.out ⟨by have := HN.out; omega, by have := HN.out; omega⟩ hz).mono ?_
  rintro ee w4 ⟨rfl, hp4, hb4⟩
  have HP4 := Lib.hid hp4
  have HB4 := Lib.hid ((HB3.out.mono (by omega)).trans hb4)
  clear hp4 hb4
  go_wp2_with fail
  (first | go_end0 | refine bodyPost_ret (results_none rfl _ _ _) rfl ?_)
  exact ⟨rfl, by rw [HKK.out]; exact HP4.out, HB4.out⟩
set_option maxHeartbeats 2000000 in
theorem impl_packText (b : List Int) (m : Int) (s : ByteArray) (g : Nat) (w : World) (hp : Pk w g b) (hm : 0 ≤ m ∧ m ≤ 7) (hbu : ∀ x ∈ b, U8 x) (hz : b.length ≤ 1073741824) (hs : s.size ≤ 1073741824) :
    Calls Tryz.prog 198 #[.pointer (some ⟨g, 0, none⟩), .int .i64 m, .string s] w fun e w' => e = .returned (.tuple #[]) ∧ Pk w' g (b ++ (hdL m s.size ++ byteL s)) ∧ Below g w w' := by
  have hg := hp.lt
  have HP := Lib.hid hp
  have HM := Lib.hid hm
  have HU := Lib.hid hbu
  obtain ⟨a, cap, hp1, hp2⟩ := hp
  obtain ⟨e0, e1, e2⟩ := hp1.cells3
  clear hp1 hp2 hbu hm
  go_enter Tryz.func198, Tryz.ntmps198
  go_wp2_with fail
  refine (impl_packNumber b m s.size g w HP.out HM.out (by omega) hz).mono ?_
  rintro ee w2 ⟨rfl, hp2, hb2⟩
  have hg2 := hp2.lt
  have HB2 := Lib.hid hb2
  clear hb2 e0 e1 e2
  obtain ⟨a2, c2, i2, happ2⟩ := hp2
  obtain ⟨f0, f1, f2⟩ := i2.cells3
  have hrow := happ2.row
  have hl9 := hdL_len m (s.size : Int)
  obtain ⟨a3, c3, w3, hrun, happ3, hb3, hout3, hsz3⟩ := run_appStr (P := Tryz.prog) w2 22 9 22 Tryz.underlying22 Tryz.underlying9 info_Byte2 (g + 1) a2 c2 (b ++ hdL m s.size) (fun x hx => by rcases List.mem_append.1 hx with h | h; exact HU.out x h; exact hdL_u8 _ _ x h) happ2 (by omega) s (by rw [List.length_append]; omega)
  have i3 := i2.agree (hout3 g hg2 (fun k hk => by have := (hrow k hk).1; omega))
  obtain ⟨y0, y1, y2⟩ := i3.cells3
  have ff := fun i => i3.frozen i
  have hg3 : g < w3.heap.size := i3.lt
  have HP3 := Lib.hid (Pk.stored i3 happ3)
  have HB3 := Lib.hid ((HB2.out.trans (hb3.mono (by omega))).trans (below1s w3 g 0 (.slice a3 ((b ++ hdL m s.size) ++ byteL s).length c3)))
  rw [List.append_assoc] at HP3
  simp only [List.length_append] at hrun HP3 HB3
  clear i2 happ2 hrow happ3 hb3 hout3 i3 HP
  go_wp2_with (at_builtin; refine Lib.wpList_append_run _ rfl _ _ _ _ rfl _ _ rfl rfl _ _ hrun ?_)
  (first | go_end0 | refine bodyPost_ret (results_none rfl _ _ _) rfl ?_)
  refine ⟨rfl, ?_, ?_⟩
  · have h := HP3.out
    simp only [Nat.add_assoc] at h ⊢
    exact h
  · have h := HB3.out
    simp only [Nat.add_assoc] at h ⊢
    exact h
/-- What the packer's method 'value' promises of a tree. -/
def PV (t : T) : Prop := ∀ (b : List Int) (a : Option Addr) (cap B g : Nat) (w : World), R w B a cap t.l → Wf t → T.sz t ≤ 1048576 → B ≤ g → Pk w g b → (∀ x ∈ b, U8 x) → b.length + 10 * T.sz t + 10 ≤ 1073741824 →
    Calls Tryz.prog 189 #[.pointer (some ⟨g, 0, none⟩), .agg (cV t a cap)] w fun e w' => e = .returned (.tuple #[]) ∧ Pk w' g (b ++ packT t) ∧ Below g w w'
theorem packTs_u8 (l : List T) : ∀ x ∈ packTs l, U8 x := by
  induction l with
  | nil => intro x hx; cases hx
  | cons t r ih =>
    intro x hx
    rw [packTs] at hx
    rcases List.mem_append.1 hx with h | h
    · exact packT_u8 t x h
    · exact ih x h
set_option maxHeartbeats 4000000 in
theorem impl_packElems (l : List T) (IH : Hid (∀ t ∈ l, PV t)) (b : List Int) (m n : Int) (a : Option Addr) (cap B g : Nat) (w : World) (hr : R w B a cap l) (hsz : T.szL l ≤ 1048576) (hB : B ≤ g) (hp : Pk w g b) (hm : 0 ≤ m ∧ m ≤ 7) (hn : 0 ≤ n ∧ n ≤ 1000000000000000) (hbu : ∀ x ∈ b, U8 x) (hz : b.length + 9 + 10 * T.szL l ≤ 1073741824) :
    Calls Tryz.prog 199 #[.pointer (some ⟨g, 0, none⟩), .int .i64 m, .int .i64 n, .slice a l.length cap] w fun e w' => e = .returned (.tuple #[]) ∧ Pk w' g (b ++ (hdL m n ++ packTs l)) ∧ Below g w w' := by
  have hg := hp.lt
  obtain ⟨hl1, hl2⟩ := hr.len
  have HP := Lib.hid hp
  have HM := Lib.hid hm; have HN := Lib.hid hn
  have HU := Lib.hid hbu
  have HR := Lib.hid hr
  obtain ⟨a0, cap0, hp1, hp2⟩ := hp
  obtain ⟨e0, e1, e2⟩ := hp1.cells3
  clear hp1 hp2 hbu hm hn hr
  go_enter Tryz.func199, Tryz.ntmps199
  go_wp2_with fail
  refine (impl_packNumber b m n g w HP.out HM.out HN.out (by omega)).mono ?_
  rintro ee w2 ⟨rfl, hp2, hb2⟩
  have HB2 := Lib.hid hb2
  have HP2 := Lib.hid hp2
  have hg2 := hp2.lt
  clear hb2 hp2 HP
  have hl9 := hdL_len m n
  go_wp2_with fail
  go_loopw [30] (fun i wr => ∃ (j : Nat), j ≤ l.length ∧ i = .int .i64 j ∧ Hid (Pk wr g (b ++ (hdL m n ++ packTs (l.take j)))) ∧ Hid (Below g w wr)) (fun i _ => l.length - (intOf i).toNat)
  case atStart => exact ⟨0, Nat.zero_le _, rfl, Lib.hid (by rw [List.take_zero, packTs, List.append_nil]; exact HP2.out), HB2⟩
  case round =>
    obtain ⟨j, hj, rfl, HPj, HBj⟩ := hrel
    have hgr := HPj.out.lt
    by_cases hlt : j < l.length
    · obtain ⟨bb, o, a2, cap2, rfl, hbl2, d0, d1, d2, d3, d4, hwf, hq⟩ := (HR.out.below HBj.out hB).get j hlt
      have hszj := T.sz_get l j hlt
      have h1 := T.szL_take_succ l j hlt
      have h2 := T.szL_take_le l (j + 1)
      have h3 := packTs_len (l.take j)
      have hlb : bb < wr.heap.size := by omega
      have HWF := Lib.hid hwf
      have HQ := Lib.hid hq
      have HS := Lib.hid (show b ++ (hdL m n ++ packTs (l.take (j + 1))) = (b ++ (hdL m n ++ packTs (l.take j))) ++ packT l[j] from by rw [packTs_succ l j hlt]; simp only [List.append_assoc])
      obtain ⟨u, hu⟩ : ∃ u, l[j] = u := ⟨_, rfl⟩
      have HPV : Hid (PV u) := Lib.hid (by rw [← hu]; exact IH.out l[j] (List.getElem_mem hlt))
      rw [hu] at d0 d1 d2 d3 d4 HQ HWF HS hszj h1
      clear hwf hq hu
      go_wp2_with fail
      generalize hW : wr.alloc _ = W1 at *
      have hb1 : Below wr.heap.size wr W1 := by rw [← hW]; exact below1 _ _
      have q1 : Is W1 wr.heap.size 36 (cV u a2 cap2) := by rw [← hW]; exact Is.new _ _ _
      clear hW
      obtain ⟨x0, x1, x2, x3, x4⟩ := q1.cells5
      have lx := q1.lt
      have hs1 := hb1.size
      have HP1 := Lib.hid (HPj.out.below hb1)
      have HB1 := Lib.hid (HBj.out.trans (hb1.mono (by omega)))
      have HQ1 := Lib.hid (HQ.out.below hb1 (by omega))
      clear hb1 q1
      go_wp2_with fail
      refine (HPV.out _ a2 cap2 B g _ HQ1.out HWF.out (by omega) hB HP1.out (fun x hx => by
        rcases List.mem_append.1 hx with h | h
        · exact HU.out x h
        · rcases List.mem_append.1 h with h | h
          · exact hdL_u8 _ _ x h
          · exact packTs_u8 _ x h) (by simp only [List.length_append]; omega)).mono ?_
      rintro ee w4 ⟨rfl, hp4, hb4⟩
      have HP4 : Hid (Pk w4 g (b ++ (hdL m n ++ packTs (l.take (j + 1))))) := Lib.hid (by rw [HS.out]; exact hp4)
      have HB4 := Lib.hid (HB1.out.trans hb4)
      clear hp4 hb4
      go_wp2_with fail
      go_roundw
      case rel => exact ⟨j + 1, by omega, by go_num, HP4, HB4⟩
      case measure => simp [intOf]; omega
    · have hjj : l.length = j := by omega
      have HJ := Lib.hid (show l.take j = l from by rw [← hjj, List.take_length])
      rw [HJ.out] at HPj
      go_wp2_with fail
      (first | go_end0 | refine bodyPost_ret (results_none rfl _ _ _) rfl ?_)
      exact ⟨rfl, HPj.out, HBj.out⟩
end Go.Proofs.YtpifadjlbjifhaaGreatDoor
