/- Texts of this proof, merged: Lss1, Lss2, Lss3. No condition beyond what each theorem states. -/
import Derived.Test.YtfbodhfdomdkpaaGreatDoorRows
import Derived.WalkKit
import Derived.ProofKit
import Derived.OpenShut
import Derived.Handy
import Derived.Lib.Hide
import Derived.Lib.SmallJoins
import Derived.Deep.AppendLies
import Derived.Deep.AppendSrc
import Derived.Deep.Upon
import Derived.Lib.AppendZeros
import Derived.Deep.RegionHeld3
import Derived.Deep.QuietTactic
import Derived.BigQuiet
import Derived.Deep.DeepCutAuto
import Derived.Test.YtfbodhfdomdkpaaGreatDoorZG1
import Derived.Test.YtfbodhfdomdkpaaGreatDoorZG2
import Derived.Test.YtfbodhfdomdkpaaGreatDoorZG8
import Derived.Test.YtfbodhfdomdkpaaGreatDoorZG3
import Derived.Test.YtfbodhfdomdkpaaGreatDoorZG4
import Derived.Test.YtfbodhfdomdkpaaGreatDoorZG7
import Derived.Test.YtfbodhfdomdkpaaGreatDoorZG15
import Derived.Test.YtfbodhfdomdkpaaGreatDoorZG17
import Derived.Test.YtfbodhfdomdkpaaGreatDoorZG18
import Derived.Test.YtfbodhfdomdkpaaGreatDoorZG22
import Derived.Test.YtfbodhfdomdkpaaGreatDoorZG23
set_option linter.unusedSimpArgs false
set_option linter.unnecessarySimpa false
namespace Go.Proofs.YtfbodhfdomdkpaaGreatDoor
open Go.ChangeShapes Go.WideShapes Go.ChangeAt Go.RowKit Go.Joins
set_option linter.unusedVariables false
set_option maxRecDepth 100000
/-! ### Paths, each in a row of its own -/
/-- A cell that holds a list of steps, in a row of its own. -/
def EPath (w : World) (b o : Nat) (x : List St) (F : List Nat) : Prop := ∃ a cap, w.cell? ⟨b, o, none⟩ = some (.slice a x.length cap) ∧ ((a = none ∧ cap = 0 ∧ x = [] ∧ F = []) ∨ ∃ g cur, a = some ⟨g, 0, none⟩ ∧ w.heap[g]? = some (.cells cur 79 (0, 0)) ∧ x.length ≤ cap ∧ cap ≤ maxLen ∧ cur.size = cap * 2 ∧ Row EStep 2 w g 0 x [] ∧ F = [g])
theorem EPath.elem : Elem EPath 1 := by
  refine ⟨by omega, ?_, ?_⟩
  · intro x w w' b o b' o' F h hc hF
    obtain ⟨a, cap, h1, h2⟩ := h
    refine ⟨a, cap, by have := hc 0 (by omega); rw [Nat.add_zero, Nat.add_zero] at this; rw [this]; exact h1, ?_⟩
    rcases h2 with h2 | ⟨g, cur, e1, e2, e3, e4, e5, e6, rfl⟩
    · exact Or.inl h2
    · have hg := hF g (by simp)
      exact Or.inr ⟨g, cur, e1, hg.trans e2, e3, e4, e5, e6.agree EStep.loc x (Cells.of_block hg _ _) (by simp [Agree]), rfl⟩
  · intro x w b o F h i hi
    obtain ⟨a, cap, h1, _⟩ := h
    obtain rfl : i = 0 := by omega
    exact ⟨_, h1, rfl⟩
theorem EPath.of {w : World} {b o rlo cap : Nat} {a : Option Addr} {x : List St} (h : AppL EStep 2 79 w rlo a cap x []) (hc : w.cell? ⟨b, o, none⟩ = some (.slice a x.length cap)) : ∃ F, EPath w b o x F ∧ F.Nodup ∧ ∀ f ∈ F, rlo ≤ f ∧ f < w.heap.size ∧ Unf w f := by
  rcases h with ⟨h1, h2, h3, _⟩ | ⟨g, cur, e1, e0, e2, e3, e4, e5, e6, _⟩
  · exact ⟨[], ⟨a, cap, hc, Or.inl ⟨h1, h2, h3, rfl⟩⟩, by simp, by simp⟩
  · exact ⟨[g], ⟨a, cap, hc, Or.inr ⟨g, cur, e1, e2, e3, e4, e5, e6, rfl⟩⟩, by simp, fun f hf => by
      rw [List.mem_singleton] at hf; subst hf
      exact ⟨e0, (Array.getElem?_eq_some_iff.1 e2).1, ⟨_, _, e2⟩⟩⟩
theorem EPath.out {w : World} {b o rlo : Nat} {x : List St} {F : List Nat} (h : EPath w b o x F) (hF : ∀ f ∈ F, rlo ≤ f) : ∃ a cap, w.cell? ⟨b, o, none⟩ = some (.slice a x.length cap) ∧ AppL EStep 2 79 w rlo a cap x [] := by
  obtain ⟨a, cap, h1, h2⟩ := h
  refine ⟨a, cap, h1, ?_⟩
  rcases h2 with ⟨h1, h2, h3, _⟩ | ⟨g, cur, e1, e2, e3, e4, e5, e6, rfl⟩
  · exact Or.inl ⟨h1, h2, h3, rfl⟩
  · exact Or.inr ⟨g, cur, e1, hF g (by simp), e2, e3, e4, e5, e6, by simp⟩
theorem info_Path : (Tryz.prog.info? 124).map (fun i => (i.zero, i.size, i.bytes)) = some (some (.agg #[.slice none 0 0]), 1, 24) := by kernel_rfl
set_option maxHeartbeats 8000000 in
theorem spec_l8Steps (p : List St) (s : St) (a : Option Addr) (cap B : Nat) (w : World) (hr : Rd EStep 2 w B a cap p) (hs : I64 s.1) (hz : p.length ≤ 100000) (hB : B ≤ w.heap.size) :
    Calls Tryz.prog 262 #[.slice a p.length cap, .agg #[.int .i64 s.1, .bool s.2]] w fun e w' => ∃ a' cap', e = .returned (.slice a' (p ++ [s]).length cap') ∧ AppL EStep 2 79 w' w.heap.size a' cap' (p ++ [s]) [] ∧ Below w.heap.size w w' := by
  obtain ⟨hl1, hl2⟩ := hr.len
  obtain ⟨s1, s2⟩ := s
  simp only at hs ⊢
  have HR := Lib.hid hr; have HSI := Lib.hid hs; clear hr hs
  go_enter Tryz.func262, Tryz.ntmps262
  go_upto_region 1 with (fail)
  generalize hW : w.alloc (Obj.cells #[Value.int .i64 s1, Value.bool s2] 79) = W0
  have q0 : Is W0 w.heap.size 79 #[.int .i64 s1, .bool s2] := by subst hW; exact Is.new _ _ _
  have H0 := Lib.hid (show Below w.heap.size w W0 from by subst hW; exact below1 _ _)
  have hs0 : w.heap.size + 1 ≤ W0.heap.size := by subst hW; simp
  have hs1 : W0.heap.size ≤ w.heap.size + 1 := by subst hW; simp
  clear hW
  have HR0 := Lib.hid (HR.out.below EStep.loc H0.out hB)
  obtain ⟨x0, x1⟩ := q0.cells2
  have Q0 := Lib.hid q0
  have hf0 := fun i => q0.frozen i
  have hl0 : w.heap.size < W0.heap.size := by omega
  clear q0
  -- the three worlds of the first append
  have HEa := Lib.hid (show AppL EStep 2 79 (W0.alloc (.cells #[] 79)).drew (w.heap.size + 1) (some ⟨W0.heap.size, 0, none⟩) 0 [] [] from (AppL.empty W0 (w.heap.size + 1) (by omega)).agree EStep.elem (fun _ _ => rfl) (by rw [size_alloc]; omega))
  have HSa := Lib.hid (show Srcs EStep 2 (W0.alloc (.cells #[] 79)).drew a p [] from (HR0.out.below EStep.loc (B' := W0.heap.size) ((below1 W0 _).drew) (by omega)).srcs EStep.flat)
  have HEb := Lib.hid (show AppL EStep 2 79 ((W0.alloc (.cells #[] 79)).alloc (.cells #[.int .i64 s1, .bool s2] 79)).drew (w.heap.size + 1) (some ⟨W0.heap.size, 0, none⟩) 0 [] [] from (AppL.empty W0 (w.heap.size + 1) (by omega)).agree EStep.elem (fun f hf => (below1 (W0.alloc (.cells #[] 79)) (.cells #[.int .i64 s1, .bool s2] 79)).block f hf) (by rw [size_alloc]; omega))
  have HSb := Lib.hid (show Srcs EStep 2 ((W0.alloc (.cells #[] 79)).alloc (.cells #[.int .i64 s1, .bool s2] 79)).drew a p [] from (HR0.out.below EStep.loc (B' := W0.heap.size) (((below1 W0 _).trans ((below1 _ _).mono (by simp))).drew) (by omega)).srcs EStep.flat)
  have HEc := Lib.hid (show AppL EStep 2 79 ((W0.alloc (.cells #[.int .i64 s1, .bool s2] 79)).alloc (.cells #[] 79)).drew (w.heap.size + 1) (some ⟨W0.heap.size + 1, 0, none⟩) 0 [] [] from by have := (AppL.empty (E := EStep) (n := 2) (e := 79) (W0.alloc (.cells #[.int .i64 s1, .bool s2] 79)) (w.heap.size + 1) (by simp; omega)); rw [size_alloc] at this; exact this.agree EStep.elem (fun _ _ => rfl) (by simp; omega))
  have HSc := Lib.hid (show Srcs EStep 2 ((W0.alloc (.cells #[.int .i64 s1, .bool s2] 79)).alloc (.cells #[] 79)).drew a p [] from (HR0.out.below EStep.loc (B' := W0.heap.size) (((below1 W0 _).trans ((below1 _ _).mono (by simp))).drew) (by omega)).srcs EStep.flat)
  have HIb := Lib.hid (show Is ((W0.alloc (.cells #[] 79)).alloc (.cells #[.int .i64 s1, .bool s2] 79)).drew (W0.heap.size + 1) 79 #[.int .i64 s1, .bool s2] from by have := Is.new (W0.alloc (.cells #[] 79)) #[.int .i64 s1, .bool s2] 79; rw [size_alloc] at this; exact this)
  have HIc := Lib.hid (show Is ((W0.alloc (.cells #[.int .i64 s1, .bool s2] 79)).alloc (.cells #[] 79)).drew W0.heap.size 79 #[.int .i64 s1, .bool s2] from (Is.new W0 #[.int .i64 s1, .bool s2] 79).alloc _)
  have HIb := Lib.hid (show Is ((W0.alloc (.cells #[] 79)).alloc (.cells #[.int .i64 s1, .bool s2] 79)).drew (W0.heap.size + 1) 79 #[.int .i64 s1, .bool s2] from by have := Is.new (W0.alloc (.cells #[] 79)) #[.int .i64 s1, .bool s2] 79; rw [size_alloc] at this; exact this)
  have HIc := Lib.hid (show Is ((W0.alloc (.cells #[.int .i64 s1, .bool s2] 79)).alloc (.cells #[] 79)).drew W0.heap.size 79 #[.int .i64 s1, .bool s2] from (Is.new W0 #[.int .i64 s1, .bool s2] 79).alloc _)
  have HIb := Lib.hid (show Is ((W0.alloc (.cells #[] 79)).alloc (.cells #[.int .i64 s1, .bool s2] 79)).drew (W0.heap.size + 1) 79 #[.int .i64 s1, .bool s2] from by have := Is.new (W0.alloc (.cells #[] 79)) #[.int .i64 s1, .bool s2] 79; rw [size_alloc] at this; exact this)
  have HIc := Lib.hid (show Is ((W0.alloc (.cells #[.int .i64 s1, .bool s2] 79)).alloc (.cells #[] 79)).drew W0.heap.size 79 #[.int .i64 s1, .bool s2] from (Is.new W0 #[.int .i64 s1, .bool s2] 79).alloc _)
  refine wp_region_held_drew (S := fun w' => (∀ b o, b < w.heap.size + 1 → w'.cell? ⟨b, o, none⟩ = W0.cell? ⟨b, o, none⟩) ∧ Below (w.heap.size + 1) W0 w') (by kernel_rfl) (by first | exact ⟨fun _ _ _ => rfl, (Below.refl _ _).drew⟩ | exact keep_step (by assumption) (Below.drew (Below.refl _ _)) (Nat.le_refl _) | exact keep_step (by assumption) (by assumption) (by first | omega | ((try simp only [World.size_drew, size_alloc]); omega) | (have := (‹(_ ∧ Below (w.heap.size + 1) W0 _)›).2.size; (try simp only [World.size_drew, size_alloc] at this ⊢); omega))) (fun hHeld => ?_)
  refine wpAnyH_take (i := 1) (oi := ⟨some 6, _, _, _, _, _⟩) (v := ?_) rfl (by kernel_rfl) (by kernel_rfl) (by kernel_rfl) (fun _ _ _ h => h) (Or.inl ⟨by rfl, ?_⟩) (by assumption) ?_
  rotate_left 1
  · (intro w hSw; (try dsimp only at hSw); go_simp; try (with_reducible rfl))
  try simp only [Act.put, List.setIfInBounds_toArray, List.set_cons_zero, List.set_cons_succ]
  refine wpAnyH_take (i := 3) (oi := ⟨some 8, _, _, _, _, _⟩) (v := ?_) rfl (by kernel_rfl) (by kernel_rfl) (by kernel_rfl) (fun _ _ _ h => h) (Or.inl ⟨by rfl, ?_⟩) (by assumption) ?_
  rotate_left 1
  · (intro w hSw; (try dsimp only at hSw); go_simp; try (with_reducible rfl))
  try simp only [Act.put, List.setIfInBounds_toArray, List.set_cons_zero, List.set_cons_succ]
  refine wpAnyH_ready (rs := [0, 4]) (by kernel_rfl) (by simp) ?_
  refine AllReadyH.cons (o := ⟨some 5, _, _, _, _, _⟩) rfl (fun K hK => ?_) ?_
  focus (go_simp; go_wp2_with fail; refine hK.out _ _ (by first | (with_reducible exact keep_step (by assumption) (below1 _ _) (by first | omega | ((try simp only [World.size_drew, size_alloc]); omega) | (have := (‹(_ ∧ Below (w.heap.size + 1) W0 _)›).2.size; (try simp only [World.size_drew, size_alloc] at this ⊢); omega))) | (exact keep_step (by assumption) (below1 _ _) (by first | omega | ((try simp only [World.size_drew, size_alloc]); omega) | (have := (‹(_ ∧ Below (w.heap.size + 1) W0 _)›).2.size; (try simp only [World.size_drew, size_alloc] at this ⊢); omega)))) (fun hHeld => ?_); clear hK K; try simp only [Act.put, List.setIfInBounds_toArray, List.set_cons_zero, List.set_cons_succ])
  refine wpAnyH_ready (rs := [2, 4]) (by kernel_rfl) (by simp) ?_
  refine AllReadyH.cons (o := ⟨some 7, _, _, _, _, _⟩) rfl (fun K hK => ?_) ?_
  focus ((((with_reducible refine at_world ((W0.alloc (.cells #[] 79)).drew) ?_); obtain ⟨a3, c3, w3, hrun3, happ3, hb3, hout3, hrow3, hsz3⟩ := run_appL (P := Tryz.prog) ((W0.alloc (.cells #[] 79)).drew) EStep.elem 27 27 (.agg #[.int .i64 0, .bool false]) 16 Tryz.underlying27 info_Step rfl (w.heap.size + 1) (some ⟨W0.heap.size, 0, none⟩) 0 [] [] HEa.out (by simp; omega) (by simp) a cap p [] HSa.out (by simp) (by simp [maxLen]; omega) (by simp; omega); replace happ3 : AppL EStep 2 79 w3 (w.heap.size + 1) a3 c3 p [] := happ3; (try simp only [World.size_drew, size_alloc] at hsz3); refine step_append_run _ rfl _ _ _ _ rfl _ _ rfl rfl _ _ hrun3 ?_)); refine hK.out _ _ (by first | (with_reducible exact keep_step (by assumption) (by assumption) (by first | omega | ((try simp only [World.size_drew, size_alloc]); omega) | (have := (‹(_ ∧ Below (w.heap.size + 1) W0 _)›).2.size; (try simp only [World.size_drew, size_alloc] at this ⊢); omega))) | first | exact ⟨fun _ _ _ => rfl, (Below.refl _ _).drew⟩ | exact keep_step (by assumption) (Below.drew (Below.refl _ _)) (Nat.le_refl _) | exact keep_step (by assumption) (by assumption) (by first | omega | ((try simp only [World.size_drew, size_alloc]); omega) | (have := (‹(_ ∧ Below (w.heap.size + 1) W0 _)›).2.size; (try simp only [World.size_drew, size_alloc] at this ⊢); omega))) (fun hHeld => ?_); clear hK K; try simp only [Act.put, List.setIfInBounds_toArray, List.set_cons_zero, List.set_cons_succ])
  refine wpAnyH_ready (rs := [4]) (by kernel_rfl) (by simp) ?_
  refine AllReadyH.cons (o := ⟨some 9, _, _, _, _, _⟩) rfl (fun K hK => ?_) AllReadyH.nil
  focus (go_simp; go_wp2_with fail; refine hK.out _ _ (by first | (with_reducible exact keep_step (by assumption) (below1 _ _) (by first | omega | ((try simp only [World.size_drew, size_alloc]); omega) | (have := (‹(_ ∧ Below (w.heap.size + 1) W0 _)›).2.size; (try simp only [World.size_drew, size_alloc] at this ⊢); omega))) | (exact keep_step (by assumption) (below1 _ _) (by first | omega | ((try simp only [World.size_drew, size_alloc]); omega) | (have := (‹(_ ∧ Below (w.heap.size + 1) W0 _)›).2.size; (try simp only [World.size_drew, size_alloc] at this ⊢); omega)))) (fun hHeld => ?_); clear hK K; try simp only [Act.put, List.setIfInBounds_toArray, List.set_cons_zero, List.set_cons_succ])
  refine wpAnyH_ready (rs := [5]) (by kernel_rfl) (by simp) ?_
  refine AllReadyH.cons (o := ⟨some 10, _, _, _, _, _⟩) rfl (fun K hK => ?_) AllReadyH.nil
  focus ((((with_reducible refine at_world (w3.alloc (.cells #[.int .i64 s1, .bool s2] 79)) ?_); obtain ⟨a5, c5, w5, hrun5, happ5, hb5, hout5, hrow5, hsz5⟩ := run_appL (P := Tryz.prog) (w3.alloc (.cells #[.int .i64 s1, .bool s2] 79)) EStep.elem 27 27 (.agg #[.int .i64 0, .bool false]) 16 Tryz.underlying27 info_Step rfl (w.heap.size + 1) a3 c3 p [] (happ3.agree EStep.elem (fun f hf => (below1 w3 (.cells #[.int .i64 s1, .bool s2] 79)).block f hf) (by omega)) (by (try simp only [size_alloc]); omega) happ3.cap.1 (some ⟨w3.heap.size, 0, none⟩) 1 [(s1, s2)] [] (Srcs.one ⟨rfl, (Is.new w3 #[.int .i64 s1, .bool s2] 79).cell 0 rfl, (Is.new w3 #[.int .i64 s1, .bool s2] 79).cell 1 rfl, HSI.out⟩) (by simp) (by simp [maxLen]; omega) (by simp; omega); refine step_append_run _ rfl _ _ _ _ rfl _ _ rfl rfl _ _ hrun5 ?_)); refine hK.out _ _ (by first | (with_reducible exact keep_step (by assumption) (by assumption) (by first | omega | ((try simp only [World.size_drew, size_alloc]); omega) | (have := (‹(_ ∧ Below (w.heap.size + 1) W0 _)›).2.size; (try simp only [World.size_drew, size_alloc] at this ⊢); omega))) | first | exact ⟨fun _ _ _ => rfl, (Below.refl _ _).drew⟩ | exact keep_step (by assumption) (Below.drew (Below.refl _ _)) (Nat.le_refl _) | exact keep_step (by assumption) (by assumption) (by first | omega | ((try simp only [World.size_drew, size_alloc]); omega) | (have := (‹(_ ∧ Below (w.heap.size + 1) W0 _)›).2.size; (try simp only [World.size_drew, size_alloc] at this ⊢); omega))) (fun hHeld => ?_); clear hK K; try simp only [Act.put, List.setIfInBounds_toArray, List.set_cons_zero, List.set_cons_succ])
  refine wpAnyH_take (i := 6) (oi := ⟨some 4, _, _, _, _, _⟩) (v := ?_) rfl (by kernel_rfl) (by kernel_rfl) (by kernel_rfl) (fun _ _ _ h => h) (Or.inl ⟨by rfl, ?_⟩) (by assumption) ?_
  rotate_left 1
  · (intro w hSw; (try dsimp only at hSw); go_simp; try (with_reducible rfl))
  try simp only [Act.put, List.setIfInBounds_toArray, List.set_cons_zero, List.set_cons_succ]
  refine wpAnyH_done (by kernel_rfl) ?_ _
  rotate_left 1
  refine AllReadyH.cons (o := ⟨some 9, _, _, _, _, _⟩) rfl (fun K hK => ?_) AllReadyH.nil
  focus (go_simp; go_wp2_with fail; refine hK.out _ _ (by first | (with_reducible exact keep_step (by assumption) (below1 _ _) (by first | omega | ((try simp only [World.size_drew, size_alloc]); omega) | (have := (‹(_ ∧ Below (w.heap.size + 1) W0 _)›).2.size; (try simp only [World.size_drew, size_alloc] at this ⊢); omega))) | (exact keep_step (by assumption) (below1 _ _) (by first | omega | ((try simp only [World.size_drew, size_alloc]); omega) | (have := (‹(_ ∧ Below (w.heap.size + 1) W0 _)›).2.size; (try simp only [World.size_drew, size_alloc] at this ⊢); omega)))) (fun hHeld => ?_); clear hK K; try simp only [Act.put, List.setIfInBounds_toArray, List.set_cons_zero, List.set_cons_succ])
  refine wpAnyH_ready (rs := [2]) (by kernel_rfl) (by simp) ?_
  refine AllReadyH.cons (o := ⟨some 7, _, _, _, _, _⟩) rfl (fun K hK => ?_) AllReadyH.nil
  focus ((((with_reducible refine at_world (((W0.alloc (.cells #[] 79)).alloc (.cells #[.int .i64 s1, .bool s2] 79)).drew) ?_); obtain ⟨a3, c3, w3, hrun3, happ3, hb3, hout3, hrow3, hsz3⟩ := run_appL (P := Tryz.prog) (((W0.alloc (.cells #[] 79)).alloc (.cells #[.int .i64 s1, .bool s2] 79)).drew) EStep.elem 27 27 (.agg #[.int .i64 0, .bool false]) 16 Tryz.underlying27 info_Step rfl (w.heap.size + 1) (some ⟨W0.heap.size, 0, none⟩) 0 [] [] HEb.out (by simp; omega) (by simp) a cap p [] HSb.out (by simp) (by simp [maxLen]; omega) (by simp; omega); replace happ3 : AppL EStep 2 79 w3 (w.heap.size + 1) a3 c3 p [] := happ3; (try simp only [World.size_drew, size_alloc] at hsz3); have hsrcb : Is w3 (W0.heap.size + 1) 79 #[.int .i64 s1, .bool s2] := Is.agree (HIb.out) (hout3 _ (by simp only [World.size_drew, size_alloc]; omega) (fun k hk e => by simp [Value.ownBlock] at hk; omega)); refine step_append_run _ rfl _ _ _ _ rfl _ _ rfl rfl _ _ hrun3 ?_)); refine hK.out _ _ (by first | (with_reducible exact keep_step (by assumption) (by assumption) (by first | omega | ((try simp only [World.size_drew, size_alloc]); omega) | (have := (‹(_ ∧ Below (w.heap.size + 1) W0 _)›).2.size; (try simp only [World.size_drew, size_alloc] at this ⊢); omega))) | first | exact ⟨fun _ _ _ => rfl, (Below.refl _ _).drew⟩ | exact keep_step (by assumption) (Below.drew (Below.refl _ _)) (Nat.le_refl _) | exact keep_step (by assumption) (by assumption) (by first | omega | ((try simp only [World.size_drew, size_alloc]); omega) | (have := (‹(_ ∧ Below (w.heap.size + 1) W0 _)›).2.size; (try simp only [World.size_drew, size_alloc] at this ⊢); omega))) (fun hHeld => ?_); clear hK K; try simp only [Act.put, List.setIfInBounds_toArray, List.set_cons_zero, List.set_cons_succ])
  refine wpAnyH_ready (rs := [5]) (by kernel_rfl) (by simp) ?_
  refine AllReadyH.cons (o := ⟨some 10, _, _, _, _, _⟩) rfl (fun K hK => ?_) AllReadyH.nil
  focus (((have hguard := hsrcb; (with_reducible refine at_world (w3) ?_); obtain ⟨a5, c5, w5, hrun5, happ5, hb5, hout5, hrow5, hsz5⟩ := run_appL (P := Tryz.prog) (w3) EStep.elem 27 27 (.agg #[.int .i64 0, .bool false]) 16 Tryz.underlying27 info_Step rfl (w.heap.size + 1) a3 c3 p [] (happ3) (by (try simp only [size_alloc]); omega) happ3.cap.1 (some ⟨W0.heap.size + 1, 0, none⟩) 1 [(s1, s2)] [] (Srcs.one ⟨rfl, (hsrcb).cell 0 rfl, (hsrcb).cell 1 rfl, HSI.out⟩) (by simp) (by simp [maxLen]; omega) (by simp; omega); refine step_append_run _ rfl _ _ _ _ rfl _ _ rfl rfl _ _ hrun5 ?_)); refine hK.out _ _ (by first | (with_reducible exact keep_step (by assumption) (by assumption) (by first | omega | ((try simp only [World.size_drew, size_alloc]); omega) | (have := (‹(_ ∧ Below (w.heap.size + 1) W0 _)›).2.size; (try simp only [World.size_drew, size_alloc] at this ⊢); omega))) | first | exact ⟨fun _ _ _ => rfl, (Below.refl _ _).drew⟩ | exact keep_step (by assumption) (Below.drew (Below.refl _ _)) (Nat.le_refl _) | exact keep_step (by assumption) (by assumption) (by first | omega | ((try simp only [World.size_drew, size_alloc]); omega) | (have := (‹(_ ∧ Below (w.heap.size + 1) W0 _)›).2.size; (try simp only [World.size_drew, size_alloc] at this ⊢); omega))) (fun hHeld => ?_); clear hK K; try simp only [Act.put, List.setIfInBounds_toArray, List.set_cons_zero, List.set_cons_succ])
  refine wpAnyH_take (i := 6) (oi := ⟨some 4, _, _, _, _, _⟩) (v := ?_) rfl (by kernel_rfl) (by kernel_rfl) (by kernel_rfl) (fun _ _ _ h => h) (Or.inl ⟨by rfl, ?_⟩) (by assumption) ?_
  rotate_left 1
  · (intro w hSw; (try dsimp only at hSw); go_simp; try (with_reducible rfl))
  try simp only [Act.put, List.setIfInBounds_toArray, List.set_cons_zero, List.set_cons_succ]
  refine wpAnyH_done (by kernel_rfl) ?_ _
  rotate_left 1
  refine AllReadyH.cons (o := ⟨some 9, _, _, _, _, _⟩) rfl (fun K hK => ?_) AllReadyH.nil
  focus (go_simp; go_wp2_with fail; refine hK.out _ _ (by first | (with_reducible exact keep_step (by assumption) (below1 _ _) (by first | omega | ((try simp only [World.size_drew, size_alloc]); omega) | (have := (‹(_ ∧ Below (w.heap.size + 1) W0 _)›).2.size; (try simp only [World.size_drew, size_alloc] at this ⊢); omega))) | (exact keep_step (by assumption) (below1 _ _) (by first | omega | ((try simp only [World.size_drew, size_alloc]); omega) | (have := (‹(_ ∧ Below (w.heap.size + 1) W0 _)›).2.size; (try simp only [World.size_drew, size_alloc] at this ⊢); omega)))) (fun hHeld => ?_); clear hK K; try simp only [Act.put, List.setIfInBounds_toArray, List.set_cons_zero, List.set_cons_succ])
  refine wpAnyH_ready (rs := [0]) (by kernel_rfl) (by simp) ?_
  refine AllReadyH.cons (o := ⟨some 5, _, _, _, _, _⟩) rfl (fun K hK => ?_) AllReadyH.nil
  focus (go_simp; go_wp2_with fail; refine hK.out _ _ (by first | (with_reducible exact keep_step (by assumption) (below1 _ _) (by first | omega | ((try simp only [World.size_drew, size_alloc]); omega) | (have := (‹(_ ∧ Below (w.heap.size + 1) W0 _)›).2.size; (try simp only [World.size_drew, size_alloc] at this ⊢); omega))) | (exact keep_step (by assumption) (below1 _ _) (by first | omega | ((try simp only [World.size_drew, size_alloc]); omega) | (have := (‹(_ ∧ Below (w.heap.size + 1) W0 _)›).2.size; (try simp only [World.size_drew, size_alloc] at this ⊢); omega)))) (fun hHeld => ?_); clear hK K; try simp only [Act.put, List.setIfInBounds_toArray, List.set_cons_zero, List.set_cons_succ])
  refine wpAnyH_ready (rs := [2]) (by kernel_rfl) (by simp) ?_
  refine AllReadyH.cons (o := ⟨some 7, _, _, _, _, _⟩) rfl (fun K hK => ?_) AllReadyH.nil
  focus ((((with_reducible refine at_world (((W0.alloc (.cells #[.int .i64 s1, .bool s2] 79)).alloc (.cells #[] 79)).drew) ?_); obtain ⟨a3, c3, w3, hrun3, happ3, hb3, hout3, hrow3, hsz3⟩ := run_appL (P := Tryz.prog) (((W0.alloc (.cells #[.int .i64 s1, .bool s2] 79)).alloc (.cells #[] 79)).drew) EStep.elem 27 27 (.agg #[.int .i64 0, .bool false]) 16 Tryz.underlying27 info_Step rfl (w.heap.size + 1) (some ⟨W0.heap.size + 1, 0, none⟩) 0 [] [] HEc.out (by simp; omega) (by simp) a cap p [] HSc.out (by simp) (by simp [maxLen]; omega) (by simp; omega); replace happ3 : AppL EStep 2 79 w3 (w.heap.size + 1) a3 c3 p [] := happ3; (try simp only [World.size_drew, size_alloc] at hsz3); have hsrcc : Is w3 W0.heap.size 79 #[.int .i64 s1, .bool s2] := Is.agree (HIc.out) (hout3 _ (by simp only [World.size_drew, size_alloc]; omega) (fun k hk e => by simp [Value.ownBlock] at hk; omega)); refine step_append_run _ rfl _ _ _ _ rfl _ _ rfl rfl _ _ hrun3 ?_)); refine hK.out _ _ (by first | (with_reducible exact keep_step (by assumption) (by assumption) (by first | omega | ((try simp only [World.size_drew, size_alloc]); omega) | (have := (‹(_ ∧ Below (w.heap.size + 1) W0 _)›).2.size; (try simp only [World.size_drew, size_alloc] at this ⊢); omega))) | first | exact ⟨fun _ _ _ => rfl, (Below.refl _ _).drew⟩ | exact keep_step (by assumption) (Below.drew (Below.refl _ _)) (Nat.le_refl _) | exact keep_step (by assumption) (by assumption) (by first | omega | ((try simp only [World.size_drew, size_alloc]); omega) | (have := (‹(_ ∧ Below (w.heap.size + 1) W0 _)›).2.size; (try simp only [World.size_drew, size_alloc] at this ⊢); omega))) (fun hHeld => ?_); clear hK K; try simp only [Act.put, List.setIfInBounds_toArray, List.set_cons_zero, List.set_cons_succ])
  refine wpAnyH_ready (rs := [5]) (by kernel_rfl) (by simp) ?_
  refine AllReadyH.cons (o := ⟨some 10, _, _, _, _, _⟩) rfl (fun K hK => ?_) AllReadyH.nil
  focus (((have hguard := hsrcc; (with_reducible refine at_world (w3) ?_); obtain ⟨a5, c5, w5, hrun5, happ5, hb5, hout5, hrow5, hsz5⟩ := run_appL (P := Tryz.prog) (w3) EStep.elem 27 27 (.agg #[.int .i64 0, .bool false]) 16 Tryz.underlying27 info_Step rfl (w.heap.size + 1) a3 c3 p [] (happ3) (by (try simp only [size_alloc]); omega) happ3.cap.1 (some ⟨W0.heap.size, 0, none⟩) 1 [(s1, s2)] [] (Srcs.one ⟨rfl, (hsrcc).cell 0 rfl, (hsrcc).cell 1 rfl, HSI.out⟩) (by simp) (by simp [maxLen]; omega) (by simp; omega); refine step_append_run _ rfl _ _ _ _ rfl _ _ rfl rfl _ _ hrun5 ?_)); refine hK.out _ _ (by first | (with_reducible exact keep_step (by assumption) (by assumption) (by first | omega | ((try simp only [World.size_drew, size_alloc]); omega) | (have := (‹(_ ∧ Below (w.heap.size + 1) W0 _)›).2.size; (try simp only [World.size_drew, size_alloc] at this ⊢); omega))) | first | exact ⟨fun _ _ _ => rfl, (Below.refl _ _).drew⟩ | exact keep_step (by assumption) (Below.drew (Below.refl _ _)) (Nat.le_refl _) | exact keep_step (by assumption) (by assumption) (by first | omega | ((try simp only [World.size_drew, size_alloc]); omega) | (have := (‹(_ ∧ Below (w.heap.size + 1) W0 _)›).2.size; (try simp only [World.size_drew, size_alloc] at this ⊢); omega))) (fun hHeld => ?_); clear hK K; try simp only [Act.put, List.setIfInBounds_toArray, List.set_cons_zero, List.set_cons_succ])
  refine wpAnyH_take (i := 6) (oi := ⟨some 4, _, _, _, _, _⟩) (v := ?_) rfl (by kernel_rfl) (by kernel_rfl) (by kernel_rfl) (fun _ _ _ h => h) (Or.inl ⟨by rfl, ?_⟩) (by assumption) ?_
  rotate_left 1
  · (intro w hSw; (try dsimp only at hSw); go_simp; try (with_reducible rfl))
  try simp only [Act.put, List.setIfInBounds_toArray, List.set_cons_zero, List.set_cons_succ]
  refine wpAnyH_done (by kernel_rfl) ?_ _
  all_goals
    have HB6 := Lib.hid (show Below (w.heap.size + 1) W0 _ from (‹_ ∧ Below (w.heap.size + 1) W0 _›).2)
    go_wp2_with fail
    go_ret
    exact ⟨a5, c5, by (have h : (p ++ [(s1, s2)]).length = p.length + 1 := by simp); rw [h]; rfl, happ5.lower (by omega), H0.out.trans (HB6.out.mono (by omega))⟩
end Go.Proofs.YtfbodhfdomdkpaaGreatDoor
namespace Go.Proofs.YtfbodhfdomdkpaaGreatDoor
open Go.ChangeShapes Go.WideShapes Go.ChangeAt Go.RowKit Go.Joins
set_option linter.unusedVariables false
set_option maxRecDepth 100000
/-! ### All paths of a tree -/
theorem copyS (w : World) (p : List St) (a : Option Addr) (cap B : Nat) (hr : Rd EStep 2 w B a cap p) (hB : B ≤ w.heap.size) (hz : p.length ≤ 100000) :
    ∃ a' cap' w', (Builtin.append_ #[27, 27] 27 #[.slice (some ⟨w.heap.size, 0, none⟩) 0 0, .slice a p.length cap]).run Tryz.prog (w.alloc (.cells #[] 79)) = .ok (.slice a' p.length cap') w' ∧
      AppL EStep 2 79 w' w.heap.size a' cap' p [] ∧ Below w.heap.size w w' := by
  obtain ⟨a', cap', w', hrun, happ, hbel, _, _, _⟩ := run_appL (P := Tryz.prog) (w.alloc (.cells #[] 79)) EStep.elem 27 27 (.agg #[.int .i64 0, .bool false]) 16 Tryz.underlying27 info_Step rfl w.heap.size (some ⟨w.heap.size, 0, none⟩) 0 [] [] (AppL.empty w w.heap.size (Nat.le_refl _)) (by simp) (by simp) a cap p [] ((hr.below EStep.loc (below1 w _) hB).srcs EStep.flat) (by simp) (by simp [maxLen]; omega) (by simp; omega)
  exact ⟨a', cap', w', hrun, happ, (below1 w _).trans hbel⟩
section
variable {α : Type} {E : World → Nat → Nat → α → List Nat → Prop} {n : Nat} {e : TypeId}
theorem App.srcs {w : World} {lo hi cap : Nat} {a : Option Addr} {l : List α} (h : App E n e True w lo hi a cap l) : ∃ G, Srcs E n w a l G ∧ G.Nodup ∧ ∀ f ∈ G, lo ≤ f ∧ f < hi ∧ Unf w f := by
  obtain ⟨F, ⟨h1, h2, h3, h4⟩, h5, h6⟩ := h.own
  by_cases hl : l = []
  · exact ⟨[], ⟨fun _ => rfl, fun h => absurd hl h⟩, by simp, by simp⟩
  · obtain ⟨b, o, F', rfl, rfl, hr⟩ := h4 hl
    exact ⟨F', ⟨fun h => absurd h hl, fun _ => ⟨b, o, rfl, hr⟩⟩, (List.nodup_cons.1 h5).2, fun f hf => h6 f (by simp [hf])⟩
/-- A row of one element, just laid. -/
theorem App.one1 {w : World} {lo : Nat} {x : α} {F : List Nat} {cs : Array Value} (hx : E (w.alloc (.cells cs e)) w.heap.size 0 x F) (hF : F.Nodup) (hF2 : ∀ f ∈ F, lo ≤ f ∧ f < w.heap.size ∧ Unf w f) (hc : cs.size = n) (hl : lo ≤ w.heap.size) : App E n e True (w.alloc (.cells cs e)) lo (w.heap.size + 1) (Option.some ⟨w.heap.size, 0, none⟩) 1 [x] :=
  Or.inr ⟨w.heap.size, cs, F, rfl, hl, by omega, heap_alloc_new w _, by simp, by simp [maxLen], by omega, ⟨F, [], by simp, hx, rfl⟩, fun hm => by have := (hF2 _ hm).2.1; omega, fun _ => hF, fun f hf => ⟨(hF2 f hf).1, by have := (hF2 f hf).2.1; omega, (hF2 f hf).2.2.alloc _⟩⟩
end
theorem EPath.box {w : World} {rlo cap : Nat} {a : Option Addr} {x : List St} (h : AppL EStep 2 79 w rlo a cap x []) (e : TypeId) : ∃ F, EPath (w.alloc (.cells #[.slice a x.length cap] e)) w.heap.size 0 x F ∧ F.Nodup ∧ ∀ f ∈ F, rlo ≤ f ∧ f < w.heap.size ∧ Unf w f := by
  have hc := (Is.new w #[.slice a x.length cap] e).cell 0 rfl
  rcases h with ⟨h1, h2, h3, _⟩ | ⟨g, cur, e1, e0, e2, e3, e4, e5, e6, _⟩
  · exact ⟨[], ⟨a, cap, hc, Or.inl ⟨h1, h2, h3, rfl⟩⟩, by simp, by simp⟩
  · have hg : g < w.heap.size := (Array.getElem?_eq_some_iff.1 e2).1
    have hgb := (below1 w (.cells #[.slice a x.length cap] e)).block g hg
    exact ⟨[g], ⟨a, cap, hc, Or.inr ⟨g, cur, e1, hgb.trans e2, e3, e4, e5, e6.agree EStep.loc x (Cells.of_block hgb _ _) (by simp [Agree]), rfl⟩⟩, by simp, fun f hf => by
      rw [List.mem_singleton] at hf; subst hf
      exact ⟨e0, hg, ⟨_, _, e2⟩⟩⟩
set_option maxHeartbeats 16000000 in
theorem spec_l8Paths : ∀ t : T, ∀ (p : List St) (a ap : Option Addr) (cap cp B : Nat) (w : World), R w B a cap t.l → Wf t → Rd EStep 2 w B ap cp p → B ≤ w.heap.size → T.count t ≤ 10000 → p.length + T.depth t ≤ 10000 →
    Calls Tryz.prog 204 #[.agg (cV t a cap), .slice ap p.length cp] w fun e w' => ∃ (L : List (List St)) (ar : Option Addr) (cr : Nat), e = .returned (.slice ar L.length cr) ∧ 0 < L.length ∧ L.length ≤ T.count t ∧ (∀ x ∈ L, x.length ≤ p.length + T.depth t) ∧ App EPath 1 124 True w' w.heap.size w'.heap.size ar cr L ∧ Below w.heap.size w w' := by
  intro t
  induction t using T.ind with
  | h k n x s l ih =>
    intro p a ap cap cp B w hr hwf hp hB hct hdp
    have IH := Lib.hid ih; clear ih
    simp only [cV, T.k, T.n, T.x, T.s, T.l] at hr ⊢
    simp only [T.count] at hct
    simp only [T.depth] at hdp
    obtain ⟨hl1, hl2⟩ := hr.len
    obtain ⟨hp1, hp2⟩ := hp.len
    have hlc := T.length_le_countL l
    have HB0 := Lib.hid (below1 w (.cells #[Value.int .i64 k, Value.int .i64 n, Value.int .i64 x, Value.string s, Value.slice a l.length cap] 36))
    have HR0 := Lib.hid hr; have HP0 := Lib.hid hp; have HP := Lib.hid (hp.below EStep.loc HB0.out hB); clear hr hp hwf
    have q0 := Is.new w #[Value.int .i64 k, Value.int .i64 n, Value.int .i64 x, Value.string s, Value.slice a l.length cap] 36
    obtain ⟨a1, c1, w1, hrun, happ1, hb1⟩ := copyS (w.alloc (.cells #[Value.int .i64 k, Value.int .i64 n, Value.int .i64 x, Value.string s, Value.slice a l.length cap] 36)) p ap cp B HP.out (by simp; omega) (by omega)
    rw [size_alloc] at happ1 hb1 hrun
    have q1 := q0.below hb1 (by omega)
    have hs1 : w.heap.size + 1 ≤ w1.heap.size := by have := hb1.size; rw [size_alloc] at this; exact this
    have HBB1 := Lib.hid (show Below w.heap.size w w1 from HB0.out.trans (hb1.mono (by omega)))
    obtain ⟨F1, e1, e2, e3⟩ := EPath.box happ1 124
    have hA0 := App.one1 (n := 1) e1 e2 e3 rfl hs1
    have hq2 := q1.alloc (.cells #[.slice a1 p.length c1] 124)
    have hB2 : Below w.heap.size w (w1.alloc (.cells #[.slice a1 p.length c1] 124)) := HBB1.out.trans ((below1 w1 _).mono (by omega))
    clear q0 happ1 hb1 e1 e2 e3 q1
    go_enter Tryz.func204, Tryz.ntmps204
    go_upto_region 2 with (at_builtin; refine Lib.wpList_append_run _ rfl _ _ _ _ rfl _ _ rfl rfl _ _ hrun ?_)
    clear hrun
    go_wp2_with fail
    generalize hW2 : w1.alloc (.cells #[.slice a1 p.length c1] 124) = W2 at *
    have hs2 : w1.heap.size + 1 = W2.heap.size := by rw [← hW2]; simp
    have hgs : ∃ g, w1.heap.size = g := ⟨_, rfl⟩
    obtain ⟨g1, hg1⟩ := hgs
    rw [hg1] at hA0 hs2
    rw [hs2] at hA0
    try rw [hg1]
    have hsW : w.heap.size + 1 ≤ W2.heap.size := by omega
    have HA0 := Lib.hid hA0; have HQ2 := Lib.hid hq2; have HW2 := Lib.hid hB2
    clear hW2 hA0 hq2 hB2 hs2 hg1 HBB1 hs1
    go_loopw [5, 6, 7] (fun q i _ wr => ∃ (j : Nat) (L : List (List St)) (ar : Option Addr) (cr : Nat), j ≤ l.length ∧ i = .int .i64 j ∧ q = .slice ar L.length cr ∧ 0 < L.length ∧ L.length ≤ 1 + T.countL (l.take j) ∧ (∀ x ∈ L, x.length ≤ p.length + (T.depthL l + 1)) ∧ App EPath 1 124 True wr (w.heap.size + 1) wr.heap.size ar cr L ∧ Is wr w.heap.size 36 #[Value.int .i64 k, Value.int .i64 n, Value.int .i64 x, Value.string s, Value.slice a l.length cap] ∧ Below (w.heap.size + 1) W2 wr) (fun _ i _ _ => l.length - (intOf i).toNat)
    case atStart => exact ⟨0, [p], _, _, Nat.zero_le _, rfl, rfl, by simp, by simp, fun y hy => by rw [List.mem_singleton.1 hy]; omega, HA0.out, HQ2.out, Below.refl _ _⟩
    case round =>
      obtain ⟨j, L, ar, cr, hj, rfl, rfl, hL0, hL1, hL2, happ, hq, hb⟩ := hrel
      have HA := Lib.hid happ; have HQ := Lib.hid hq; have HB := Lib.hid hb; have HL2 := Lib.hid hL2; clear happ hq hb hL2
      have hbs := HB.out.size
      have hlq := HQ.out.lt
      obtain ⟨r0, r1, r2, r3, r4⟩ := HQ.out.cells5
      have fq := fun i => HQ.out.frozen i
      by_cases hlt : j < l.length
      · have hltz : (j : Int) < (l.length : Int) := by omega
        have hcj := T.count_get l j hlt
        have hdj := T.depth_get l j hlt
        have hct1 := T.countL_take_succ l j hlt
        have hct2 := T.countL_take_le l (j + 1)
        obtain ⟨X, hX⟩ : ∃ X, wr.heap.size = X := ⟨_, rfl⟩
        have hI5 := Is.new wr #[Value.int .i64 (j : Int), Value.bool false] 79
        have hA5 := (HA.out.below EPath.elem (below1 wr (.cells #[Value.int .i64 (j : Int), Value.bool false] 79)) (Nat.le_refl _))
        have hQ5 := HQ.out.alloc (.cells #[Value.int .i64 (j : Int), Value.bool false] 79)
        have hB5 : Below (w.heap.size + 1) W2 (wr.alloc (.cells #[Value.int .i64 (j : Int), Value.bool false] 79)) := HB.out.trans ((below1 wr _).mono (by omega))
        rw [hX] at hI5 hA5
        have hXw : w.heap.size + 1 ≤ X := by omega
        have HX := Lib.hid hX; clear hX
        go_upto_if 24 with (fail)
        try rw [HX.out]
        have hsz5 : (wr.alloc (.cells #[Value.int .i64 (j : Int), Value.bool false] 79)).heap.size = X + 1 := by rw [size_alloc, HX.out]
        generalize wr.alloc (.cells #[Value.int .i64 (j : Int), Value.bool false] 79) = W3 at *
        have hge3 : X + 1 ≤ W3.heap.size := by omega
        have hge4 : W3.heap.size ≤ X + 1 := by omega
        clear hsz5
        have HI5 := Lib.hid hI5; have HA5 := Lib.hid hA5; have HQ5 := Lib.hid hQ5; have HB5 := Lib.hid hB5
        clear hI5 hA5 hQ5 hB5 HX HA HQ HB r0 r1 r2 r3 r4 fq hlq
        go_cut [] (fun wy => ∃ st : St, I64 st.1 ∧ Hid (Is wy X 79 #[.int .i64 st.1, .bool st.2]) ∧ Hid (App EPath 1 124 True wy (w.heap.size + 1) X ar cr L) ∧ Hid (Is wy w.heap.size 36 #[Value.int .i64 k, Value.int .i64 n, Value.int .i64 x, Value.string s, Value.slice a l.length cap]) ∧ Hid (Below (w.heap.size + 1) W2 wy) ∧ X + 1 ≤ wy.heap.size)
        case first =>
          obtain ⟨r0, r1, r2, r3, r4⟩ := HQ5.out.cells5
          have fq := fun i => HQ5.out.frozen i; have lq := HQ5.out.lt
          obtain ⟨y0, y1⟩ := HI5.out.cells2
          have fy := fun i => HI5.out.frozen i; have ly := HI5.out.lt
          by_cases hk : k = 10
          · have hkb : (k == 10) = true := by simp [hk]
            clear hk
            go_wp2_with fail
            go_meet
            case rel => exact ⟨((j : Int) / 2, ((j : Int) % 2 == 0)), ⟨by show _ ≤ (j : Int) / 2; omega, by show (j : Int) / 2 ≤ _; omega⟩, Lib.hid ((HI5.out.set 0 _).set 1 _), Lib.hid (HA5.out.agree EPath.elem (fun f h1 h2 => by rw [heap_miss _ _ _ _ (by omega), heap_miss _ _ _ _ (by omega)])), Lib.hid ((HQ5.out.miss X 0 (by omega) _).miss X 1 (by omega) _), Lib.hid (HB5.out.trans ((((Below.refl X _).setCell (p := ⟨X, 0, none⟩) (Nat.le_refl _) _).setCell (p := ⟨X, 1, none⟩) (Nat.le_refl _) _).mono (by omega))), by simp only [size_set]; omega⟩
          · have hkb : (k == 10) = false := by simpa using hk
            clear hk
            go_wp2_with fail
            go_meet
            case rel => exact ⟨((j : Int), false), ⟨by omega, by omega⟩, HI5, HA5, HQ5, HB5, hge3⟩
        case rest =>
          clear HI5 HA5 HQ5 HB5
          obtain ⟨st, hst, HI, HA, HQ, HB, hge⟩ := hcut
          rename World => W5
          have HST := Lib.hid hst; clear hst
          have HBW := Lib.hid (show Below w.heap.size w W5 from HW2.out.trans (HB.out.mono (by omega)))
          have HP5 := Lib.hid (show Rd EStep 2 W5.drew B ap cp p from HP0.out.below EStep.loc (HBW.out.drew) hB)
          obtain ⟨b, o, a2, cap2, rfl, hbl, d0, d1, d2, d3, d4, hwf2, hq2⟩ := (HR0.out.below HBW.out hB).get j hlt
          have HWF := Lib.hid hwf2; have HQ2 := Lib.hid hq2; clear hwf2 hq2
          have hbl2 : b < w.heap.size + 1 := by omega
          obtain ⟨r0, r1, r2, r3, r4⟩ := HQ.out.cells5
          have fq := fun i => HQ.out.frozen i; have lq := HQ.out.lt
          obtain ⟨y0, y1⟩ := HI.out.cells2
          have fy := fun i => HI.out.frozen i; have ly := HI.out.lt
          have hplen : (p ++ [st]).length ≤ p.length + 1 := by simp
          go_upto_region 8 with (fail)
          refine wp_region_held_drew (S := fun w' => (∀ b o, (b < w.heap.size + 1 ∨ b = X) → w'.cell? ⟨b, o, none⟩ = W5.cell? ⟨b, o, none⟩) ∧ Below (w.heap.size + 1) W5 w') (by kernel_rfl) (by first | exact ⟨fun _ _ _ => rfl, (Below.refl _ _).drew⟩ | exact keep_stepX (by assumption) (by assumption) (by first | omega | ((try simp only [World.size_drew, size_alloc]); omega) | (have := (‹(_ ∧ Below (w.heap.size + 1) W5 _)›).2.size; (try simp only [World.size_drew, size_alloc] at this ⊢); omega)) (by first | omega | ((try simp only [World.size_drew, size_alloc]); omega) | (have := (‹(_ ∧ Below (w.heap.size + 1) W5 _)›).2.size; (try simp only [World.size_drew, size_alloc] at this ⊢); omega))) (fun hHeld => ?_)
          refine wpAnyH_take (i := 0) (oi := ⟨some 31, _, _, _, _, _⟩) (v := ?_) rfl (by kernel_rfl) (by kernel_rfl) (by kernel_rfl) (fun _ _ _ h => h) (Or.inl ⟨by rfl, ?_⟩) (by assumption) ?_
          rotate_left 1
          · (intro w hSw; (try dsimp only at hSw); go_simp; try (with_reducible rfl))
          try simp only [Act.put, List.setIfInBounds_toArray, List.set_cons_zero, List.set_cons_succ]
          refine wpAnyH_take (i := 1) (oi := ⟨some 32, _, _, _, _, _⟩) (v := ?_) rfl (by kernel_rfl) (by kernel_rfl) (by kernel_rfl) (fun _ _ _ h => h) (Or.inl ⟨by rfl, ?_⟩) (by assumption) ?_
          rotate_left 1
          · (intro w hSw; (try dsimp only at hSw); go_simp; try (with_reducible rfl))
          try simp only [Act.put, List.setIfInBounds_toArray, List.set_cons_zero, List.set_cons_succ]
          refine wpAnyH_take (i := 2) (oi := ⟨some 33, _, _, _, _, _⟩) (v := ?_) rfl (by kernel_rfl) (by kernel_rfl) (by kernel_rfl) (fun _ _ _ h => h) (Or.inl ⟨by rfl, ?_⟩) (by assumption) ?_
          rotate_left 1
          · (intro w hSw; (try dsimp only at hSw); go_simp; try (with_reducible rfl))
          try simp only [Act.put, List.setIfInBounds_toArray, List.set_cons_zero, List.set_cons_succ]
          refine wpAnyH_take (i := 3) (oi := ⟨some 34, _, _, _, _, _⟩) (v := ?_) rfl (by kernel_rfl) (by kernel_rfl) (by kernel_rfl) (fun _ _ _ h => h) (Or.inl ⟨by rfl, ?_⟩) (by assumption) ?_
          rotate_left 1
          · (intro w hSw; (try dsimp only at hSw); go_simp; try (with_reducible rfl))
          try simp only [Act.put, List.setIfInBounds_toArray, List.set_cons_zero, List.set_cons_succ]
          refine wpAnyH_take (i := 4) (oi := ⟨some 35, _, _, _, _, _⟩) (v := ?_) rfl (by kernel_rfl) (by kernel_rfl) (by kernel_rfl) (fun _ _ _ h => h) (Or.inl ⟨by rfl, ?_⟩) (by assumption) ?_
          rotate_left 1
          · (intro w hSw; (try dsimp only at hSw); go_simp; try (with_reducible rfl))
          try simp only [Act.put, List.setIfInBounds_toArray, List.set_cons_zero, List.set_cons_succ]
          refine wpAnyH_take (i := 5) (oi := ⟨some 36, _, _, _, _, _⟩) (v := ?_) rfl (by kernel_rfl) (by kernel_rfl) (by kernel_rfl) (fun _ _ _ h => h) (Or.inl ⟨by rfl, ?_⟩) (by assumption) ?_
          rotate_left 1
          · (intro w hSw; (try dsimp only at hSw); go_simp; try (with_reducible rfl))
          try simp only [Act.put, List.setIfInBounds_toArray, List.set_cons_zero, List.set_cons_succ]
          refine wpAnyH_take (i := 6) (oi := ⟨some 37, _, _, _, _, _⟩) (v := ?_) rfl (by kernel_rfl) (by kernel_rfl) (by kernel_rfl) (fun _ _ _ h => h) (Or.inl ⟨by rfl, ?_⟩) (by assumption) ?_
          rotate_left 1
          · (intro w hSw; (try dsimp only at hSw); go_simp; try (with_reducible rfl))
          try simp only [Act.put, List.setIfInBounds_toArray, List.set_cons_zero, List.set_cons_succ]
          refine wpAnyH_take (i := 7) (oi := ⟨some 38, _, _, _, _, _⟩) (v := ?_) rfl (by kernel_rfl) (by kernel_rfl) (by kernel_rfl) (fun _ _ _ h => h) (Or.inl ⟨by rfl, ?_⟩) (by assumption) ?_
          rotate_left 1
          · (intro w hSw; (try dsimp only at hSw); go_simp; try (with_reducible rfl))
          try simp only [Act.put, List.setIfInBounds_toArray, List.set_cons_zero, List.set_cons_succ]
          refine wpAnyH_ready (rs := [8]) (by kernel_rfl) (by simp) ?_
          refine AllReadyH.cons (o := ⟨some 39, _, _, _, _, _⟩) rfl (fun K hK => ?_) AllReadyH.nil
          go_simp
          ((go_at_call 262; refine (spec_l8Steps p st ap cp B _ HP5.out HST.out (by omega) (by (try simp only [World.size_drew]); omega)).mono ?_; rintro e w3 ⟨a3, c3, rfl, happ3, hb3⟩; generalize p ++ [st] = ps at *; have HB3 := Lib.hid (show Below W5.heap.size W5 w3 from (Below.refl _ _).drew.trans hb3); have hs3 := HB3.out.size; have HA3 := Lib.hid (happ3.rd (by (try simp only [World.size_drew]); omega))))
          go_wp2_with fail
          refine hK.out _ _ (by first | exact ⟨fun _ _ _ => rfl, (Below.refl _ _).drew⟩ | exact keep_stepX (by assumption) (by assumption) (by first | omega | ((try simp only [World.size_drew, size_alloc]); omega) | (have := (‹(_ ∧ Below (w.heap.size + 1) W5 _)›).2.size; (try simp only [World.size_drew, size_alloc] at this ⊢); omega)) (by first | omega | ((try simp only [World.size_drew, size_alloc]); omega) | (have := (‹(_ ∧ Below (w.heap.size + 1) W5 _)›).2.size; (try simp only [World.size_drew, size_alloc] at this ⊢); omega))) (fun hHeld => ?_)
          clear hK K
          try simp only [Act.put, List.setIfInBounds_toArray, List.set_cons_zero, List.set_cons_succ]
          refine wpAnyH_ready (rs := [9]) (by kernel_rfl) (by simp) ?_
          refine AllReadyH.cons (o := ⟨some 40, _, _, _, _, _⟩) rfl (fun K hK => ?_) AllReadyH.nil
          focus (go_simp; ((go_at_call 204; refine (IH.out l[j] (List.getElem_mem hlt) ps a2 a3 cap2 c3 w3.heap.size w3 ((HQ2.out.below HB3.out (by omega)).more (by omega)) HWF.out HA3.out (Nat.le_refl _) (by omega) (by omega)).mono ?_; rintro e w4 ⟨L4, a4, c4, rfl, h41, h42, h43, happ4, hb4⟩; have hs4 := hb4.size; have H43 := Lib.hid h43; clear h43)); go_wp2_with fail; refine hK.out _ _ (by first | exact ⟨fun _ _ _ => rfl, (Below.refl _ _).drew⟩ | exact keep_stepX (by assumption) (by assumption) (by first | omega | ((try simp only [World.size_drew, size_alloc]); omega) | (have := (‹(_ ∧ Below (w.heap.size + 1) W5 _)›).2.size; (try simp only [World.size_drew, size_alloc] at this ⊢); omega)) (by first | omega | ((try simp only [World.size_drew, size_alloc]); omega) | (have := (‹(_ ∧ Below (w.heap.size + 1) W5 _)›).2.size; (try simp only [World.size_drew, size_alloc] at this ⊢); omega))) (fun hHeld => ?_); clear hK K; try simp only [Act.put, List.setIfInBounds_toArray, List.set_cons_zero, List.set_cons_succ])
          refine wpAnyH_ready (rs := [10]) (by kernel_rfl) (by simp) ?_
          refine AllReadyH.cons (o := ⟨some 41, _, _, _, _, _⟩) rfl (fun K hK => ?_) AllReadyH.nil
          focus (((obtain ⟨G, hsrc, hgn, hg2⟩ := happ4.srcs; obtain ⟨ar6, cr6, w6, hrun, happ6, hb6, hout6, hsz6⟩ := run_app (P := Tryz.prog) w4 EPath.elem 121 121 (.agg #[.slice none 0 0]) 24 Tryz.underlying121 info_Path rfl (w.heap.size + 1) X ar cr L ((HA.out.below EPath.elem HB3.out (by omega)).below EPath.elem hb4 (by omega)) (by omega) (by omega) a4 c4 L4 G hsrc hgn (fun f hf => ⟨by have := (hg2 f hf).1; omega, by have := (hg2 f hf).2.1; omega, (hg2 f hf).2.2⟩) (by unfold maxLen; omega) (by omega); refine step_append_run _ rfl _ _ _ _ rfl _ _ rfl rfl _ _ hrun ?_; have hx6 := hout6 X (by omega) (fun k hk e => by have := (HA.out.row k hk).2; omega))); refine hK.out _ _ (by exact keep_stepY (by assumption) (by assumption) (by assumption)) (fun hHeld => ?_); clear hK K; try simp only [Act.put, List.setIfInBounds_toArray, List.set_cons_zero, List.set_cons_succ])
          refine wpAnyH_take (i := 11) (oi := ⟨some 5, _, _, _, _, _⟩) (v := ?_) rfl (by kernel_rfl) (by kernel_rfl) (by kernel_rfl) (fun _ _ _ h => h) (Or.inl ⟨by rfl, ?_⟩) (by assumption) ?_
          rotate_left 1
          · (intro w hSw; (try dsimp only at hSw); go_simp; try (with_reducible rfl))
          try simp only [Act.put, List.setIfInBounds_toArray, List.set_cons_zero, List.set_cons_succ]
          refine wpAnyH_done (by kernel_rfl) ?_ _
          all_goals
            have HB6 := Lib.hid (show Below (w.heap.size + 1) W5 _ from (‹_ ∧ Below (w.heap.size + 1) W5 _›).2)
            go_wp2_with fail
            go_roundw
            case rel =>
              refine ⟨j + 1, L ++ L4, ar6, cr6, by omega, by go_num, by rw [List.length_append], by rw [List.length_append]; omega, by rw [List.length_append]; omega, fun y hy => ?_, happ6, HQ.out.below HB6.out (by omega), HB.out.trans HB6.out⟩
              rcases List.mem_append.1 hy with hy | hy
              · exact HL2.out y hy
              · have := H43.out y hy; omega
            case measure => simp [intOf]; omega
      · have hltz : ¬ (j : Int) < (l.length : Int) := by omega
        go_wp2_with fail
        go_ret
        exact ⟨L, ar, cr, rfl, hL0, by show _ ≤ T.countL l + 1; have := T.countL_take_le l j; omega, HL2.out, HA.out.more (by omega) (Nat.le_refl _), HW2.out.trans (HB.out.mono (by omega))⟩
end Go.Proofs.YtfbodhfdomdkpaaGreatDoor
namespace Go.Proofs.YtfbodhfdomdkpaaGreatDoor
open Go.ChangeShapes Go.WideShapes Go.ChangeAt Go.RowKit Go.Joins
set_option linter.unusedVariables false
set_option maxRecDepth 100000
theorem Rd.none' {α : Type} {E : World → Nat → Nat → α → List Nat → Prop} {n : Nat} (w : World) (B : Nat) (a : Option Addr) (c : Nat) (h : c ≤ maxLen) : Rd E n w B a c [] := ⟨[], Sl.nil _ _ _ h, by simp⟩
set_option maxHeartbeats 4000000 in
theorem spec_AllPaths (t : T) (a : Option Addr) (cap B : Nat) (w : World) (hr : R w B a cap t.l) (hwf : Wf t) (hB : B ≤ w.heap.size) (hct : T.count t ≤ 9000) :
    Calls Tryz.prog 137 #[.agg (cV t a cap)] w fun e w' => ∃ (L : List (List St)) (ar : Option Addr) (cr : Nat), e = .returned (.slice ar L.length cr) ∧ 0 < L.length ∧ L.length ≤ T.count t ∧ (∀ x ∈ L, x.length ≤ T.depth t) ∧ App EPath 1 124 True w' w.heap.size w'.heap.size ar cr L ∧ Below w.heap.size w w' := by
  have hdc := T.depth_le_count t
  have HB0 := Lib.hid (show Below w.heap.size w ((w.alloc (.cells (cV t a cap) 36)).alloc (.cells #[] 79)) from below2 _ _ _)
  have HR := Lib.hid (hr.below HB0.out hB)
  have HWF := Lib.hid hwf
  clear hr hwf
  go_enter Tryz.func137, Tryz.ntmps137
  go_wp2_with fail
  refine (spec_l8Paths t [] a (some ⟨w.heap.size + 1, 0, none⟩) cap 0 w.heap.size _ (HR.out.more hB) HWF.out (Rd.none' _ _ _ _ (by simp [maxLen])) (by simp only [size_alloc]; omega) (by omega) (by simp; omega)).mono ?_
  rintro e w2 ⟨L, ar, cr, rfl, h1, h2, h3, happ, hb⟩
  have HL := Lib.hid h3; clear h3
  have hs : w.heap.size ≤ ((w.alloc (.cells (cV t a cap) 36)).alloc (.cells #[] 79)).heap.size := HB0.out.size
  have HA := Lib.hid (happ.more hs (Nat.le_refl _))
  have HB2 := Lib.hid (HB0.out.trans (hb.mono hs))
  clear happ hb
  go_wp2_with fail
  go_ret
  exact ⟨L, ar, cr, rfl, h1, h2, fun x hx => by have := HL.out x hx; simp at this; exact this, HA.out, HB2.out⟩
set_option maxHeartbeats 4000000 in
theorem spec_l8Step (A : Nat) (w : World) (hc : Cur w A) : Calls Tryz.prog 138 #[.pointer (some ⟨A, 0, none⟩)] w fun e w' => ∃ st : St, I64 st.1 ∧ e = .returned (.agg #[.int .i64 st.1, .bool st.2]) ∧ Cur w' A ∧ Kp A w w' := by
  have hlA := hc.lt
  have HC0 := Lib.hid (hc.below (below1 w (.cells #[.int .i64 0, .bool false] 79)) hlA)
  have HK0 := Lib.hid (Kp.alloc (w := w) (Nat.le_of_lt hlA) (.cells #[.int .i64 0, .bool false] 79))
  have HI0 := Lib.hid (Is.new w #[.int .i64 0, .bool false] 79)
  clear hc
  go_enter Tryz.func138, Tryz.ntmps138
  go_wp2_with fail
  refine (spec_l1Below A 4 _ HC0.out ⟨by decide, by decide⟩).mono ?_
  rintro e w2 ⟨x, rfl, hx, _, hc2, hk2⟩
  have HC2 := Lib.hid hc2; have HI2 := Lib.hid (hk2.is HI0.out (by omega)); have HK2 := Lib.hid (show Kp A w w2 from HK0.out.trans hk2); clear hc2 hk2 HI0 HK0 HC0
  go_wp2_with fail
  refine (spec_l1Below A 8 w2 HC2.out ⟨by decide, by decide⟩).mono ?_
  rintro e w3 ⟨y, rfl, hy, _, hc3, hk3⟩
  have HC3 := Lib.hid hc3; have HI3 := Lib.hid (hk3.is HI2.out (by omega)); have HK3 := Lib.hid (show Kp A w w3 from HK2.out.trans hk3); clear hc3 hk3
  have hx4 : x < 4 := by omega
  have hy8 : y < 8 := by omega
  go_wp2_with fail
  refine (spec_l1Once A 5 w3 HC3.out ⟨by decide, by decide⟩).mono ?_
  rintro e w4 ⟨b, rfl, hc4, hk4⟩
  have HC4 := Lib.hid hc4; have HI4 := Lib.hid (hk4.is HI3.out (by omega)); have HK4 := Lib.hid (show Kp A w w4 from HK3.out.trans hk4); clear hc4 hk4
  have ff := fun i => HI4.out.frozen i; have lg := HI4.out.lt; obtain ⟨z0, z1⟩ := HI4.out.cells2
  go_wp2_with fail
  obtain ⟨e0, e1, hcf, hkf⟩ := fin2 (.int .i64 ((x : Int) - (y : Int) / 7)) (.bool b) HI4.out HK4.out (Nat.le_refl _) HC4.out hlA
  refine bodyPost_ret (v := .agg #[.int .i64 ((x : Int) - (y : Int) / 7), .bool b]) (by simp [results, Tryz.results138, go_sem, e0, e1]) rfl ⟨((x : Int) - (y : Int) / 7, b), ⟨by show _ ≤ (x : Int) - (y : Int) / 7; omega, by show (x : Int) - (y : Int) / 7 ≤ _; omega⟩, rfl, hcf, hkf⟩
/-- An element of a row of paths, and where its own row lies. -/
theorem App.path {w : World} {lo hi cap : Nat} {a : Option Addr} {L : List (List St)} (h : App EPath 1 124 True w lo hi a cap L) (i : Nat) (hi : i < L.length) :
    ∃ b o a' c', a = Option.some ⟨b, o, none⟩ ∧ b < w.heap.size ∧ w.cell? ⟨b, o + i, none⟩ = Option.some (.slice a' L[i].length c') ∧ AppL EStep 2 79 w lo a' c' L[i] [] := by
  obtain ⟨F, ⟨h1, h2, h3, h4⟩, h5, h6⟩ := h.own
  obtain ⟨b, o, F', rfl, rfl, hr⟩ := h4 (by rintro rfl; simp at hi)
  obtain ⟨F2, hE, hF⟩ := hr.get i hi
  obtain ⟨a', c', e1, e2⟩ := hE.out (rlo := lo) (fun f hf => (h6 f (by simp [hF f hf])).1)
  rw [Nat.mul_one] at e1
  exact ⟨b, o, a', c', rfl, (h6 b (by simp)).2.2.lt, e1, e2⟩
set_option maxHeartbeats 8000000 in
theorem spec_l8Path (A : Nat) (t : T) (a : Option Addr) (cap : Nat) (w : World) (hc : Cur w A) (hv : Rn TV 5 w (A + 1) a cap t.l) (hwf : Wf t) (hct : T.count t ≤ 9000) :
    Calls Tryz.prog 78 #[.pointer (some ⟨A, 0, none⟩), .agg (cV t a cap)] w fun e w' => ∃ (q : List St) (a' : Option Addr) (c' : Nat), e = .returned (.slice a' q.length c') ∧ q.length ≤ T.depth t + 1 ∧ AppL EStep 2 79 w' w.heap.size a' c' q [] ∧ Cur w' A ∧ Kp A w w' := by
  have hlA := hc.lt
  have hdc := T.depth_le_count t
  have HC0 := Lib.hid (hc.below (below1 w (.cells (cV t a cap) 36)) hlA)
  have HK0 := Lib.hid (Kp.alloc (w := w) (Nat.le_of_lt hlA) (.cells (cV t a cap) 36))
  have HR := Lib.hid (R.rd.2 ((hv.below TV.elem.loc (below1 w (.cells (cV t a cap) 36)) (Nat.le_refl _)).rd))
  have HWF := Lib.hid hwf
  clear hc hv hwf
  go_enter Tryz.func78, Tryz.ntmps78
  go_wp2_with fail
  refine (spec_AllPaths t a cap _ _ HR.out HWF.out (Nat.le_refl _) hct).mono ?_
  rintro e w2 ⟨L, ar, cr, rfl, h1, h2, h3, happ, hb⟩
  rw [size_alloc] at happ hb
  have HL := Lib.hid h3; clear h3
  have HC2 := Lib.hid (HC0.out.below hb (by omega))
  have HK2 := Lib.hid (show Kp A w w2 from HK0.out.trans (Kp.of_below hb (by simp) (by omega)))
  have hs2 := hb.size
  rw [size_alloc] at hs2
  have HA2 := Lib.hid happ
  clear happ hb HC0 HK0 HR
  obtain ⟨hl1, hl2⟩ := HA2.out.len
  go_wp2_with fail
  refine (spec_l1Below A (L.length : Int) w2 HC2.out ⟨by omega, by omega⟩).mono ?_
  rintro e w3 ⟨k, rfl, hk, _, hc3, hk3⟩
  have hkl : k < L.length := by omega
  have hkz : (k : Int) < (L.length : Int) := by omega
  have HA3 := HA2.out.kp EPath.elem hk3 (by omega) (Nat.le_refl _)
  obtain ⟨b, o, a3, c3, rfl, hbl, hcell, hp⟩ := HA3.path k hkl
  have HC3 := Lib.hid hc3; have HK3 := Lib.hid (show Kp A w w3 from HK2.out.trans hk3)
  have hs3 := hk3.size
  have HP3 := Lib.hid (hp.lower (r' := w.heap.size) (by omega))
  have hq := HL.out L[k] (List.getElem_mem hkl)
  clear hc3 hk3 HA3 HA2 hp hk
  generalize L[k] = q at *
  go_wp2_with fail
  refine (spec_l1Once A 4 w3 HC3.out ⟨by decide, by decide⟩).mono ?_
  rintro e w4 ⟨bb, rfl, hc4, hk4⟩
  have HC4 := Lib.hid hc4; have HK4 := Lib.hid (show Kp A w w4 from HK3.out.trans hk4)
  have hs4 := HK4.out.1.size
  have hs34 := hk4.size
  have HP4 := Lib.hid (HP3.out.kp EStep.elem hk4 hlA (by omega) (by simp))
  clear hc4 hk4 HP3 HC3 HK3
  cases bb with
  | false =>
    go_wp2_with fail
    go_ret
    exact ⟨q, a3, c3, rfl, by omega, HP4.out, HC4.out, HK4.out⟩
  | true =>
    go_wp2_with fail
    refine (spec_l8Step A w4 HC4.out).mono ?_
    rintro e w5 ⟨st, hst, rfl, hc5, hk5⟩
    have HP5 := Lib.hid (HP4.out.kp EStep.elem hk5 hlA hs4 (by simp))
    have hs5 := hk5.size
    have HN5 := Lib.hid (HP5.out.agree EStep.elem (fun f hf => (below1 w5 (.cells #[Value.int .i64 st.1, Value.bool st.2] 79)).block f hf) (by omega))
    have HC6 := Lib.hid (hc5.below (below1 w5 (.cells #[Value.int .i64 st.1, Value.bool st.2] 79)) hc5.lt)
    have HK6 := Lib.hid (show Kp A w _ from (HK4.out.trans hk5).trans (Kp.alloc (Nat.le_of_lt hc5.lt) (.cells #[Value.int .i64 st.1, Value.bool st.2] 79)))
    have hI5 := Is.new w5 #[Value.int .i64 st.1, Value.bool st.2] 79
    clear hc5 hk5
    go_wp2_with (at_builtin; refine wpList_appL EStep.elem rfl _ _ 27 rfl (.agg #[.int .i64 0, .bool false]) 16 Tryz.underlying27 info_Step rfl w.heap.size a3 c3 q [] rfl HN5.out (by simp; omega) w5.heap.size 0 1 1 [st] [] rfl rfl ⟨[], [], rfl, ⟨rfl, hI5.cell 0 rfl, hI5.cell 1 rfl, hst⟩, rfl⟩ (by simp) (by omega) (by unfold maxLen; omega) (by omega) ?_; intro ar2 cr2 w6 happ6 hb6)
    go_ret
    exact ⟨q ++ [st], ar2, cr2, by (have h : (q ++ [st]).length = q.length + 1 := by simp); rw [h]; rfl, by simp; omega, happ6, HC6.out.below hb6 hlA, Kp.grow HK6.out hb6 (Nat.le_of_lt hlA)⟩
end Go.Proofs.YtfbodhfdomdkpaaGreatDoor
