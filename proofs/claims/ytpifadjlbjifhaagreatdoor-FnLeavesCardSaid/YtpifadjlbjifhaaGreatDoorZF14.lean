/- Texts of this proof, merged: Exact. No condition beyond what each theorem states. -/
import Derived.Test.YtpifadjlbjifhaaGreatDoorRows
import Derived.WalkKit
import Derived.ProofKit
import Derived.OpenShut
import Derived.Handy
import Derived.Lib.Hide
import Derived.Lib.SmallJoins
import Derived.Laws.BytesArg
import Derived.Lib.ItoaNum
import Derived.Lib.ItoaLen
import Derived.Lib.AppendIntMem
import Derived.Deep.RegionHeld3
import Derived.Deep.QuietTactic
import Derived.BigQuiet
import Derived.Test.YtpifadjlbjifhaaGreatDoorZF1
import Derived.Test.YtpifadjlbjifhaaGreatDoorZF2
import Derived.Test.YtpifadjlbjifhaaGreatDoorZF3
import Derived.Test.YtpifadjlbjifhaaGreatDoorZF4
import Derived.Test.YtpifadjlbjifhaaGreatDoorZF7
import Derived.Test.YtpifadjlbjifhaaGreatDoorShelf
import Derived.Test.YtpifadjlbjifhaaGreatDoorZF5
import Derived.Test.YtpifadjlbjifhaaGreatDoorZF8
import Derived.Test.YtpifadjlbjifhaaGreatDoorZF9
import Derived.Test.YtpifadjlbjifhaaGreatDoorZF10
import Derived.Test.YtpifadjlbjifhaaGreatDoorZF11
import Derived.Test.YtpifadjlbjifhaaGreatDoorZF12
import Derived.Test.YtpifadjlbjifhaaGreatDoorZF13
set_option linter.unusedSimpArgs false
set_option linter.unnecessarySimpa false
namespace Go.Proofs.YtpifadjlbjifhaaGreatDoor
open Go.ChangeShapes Go.WideShapes Go.ChangeAt Go.RowKit Go.Joins
set_option linter.unusedVariables false
set_option maxRecDepth 100000
set_option maxHeartbeats 4000000 in
theorem spec_Exact (n x : Int) (w : World) (hn : I64 n) (hx : I64 x) :
    Calls Tryz.prog 122 #[.agg (cF n x)] w fun e w' => e = .returned (.bool (exactD n x)) ∧ Below w.heap.size w w' := by
  obtain ⟨RR, hRR⟩ : ∃ r, nearD n x = r := ⟨_, rfl⟩
  have HRR := Lib.hid hRR
  have HN := Lib.hid hn
  have HX := Lib.hid hx
  skip
  have hbox := nearD_box n x
  rw [hRR] at hbox
  have HBOX := Lib.hid hbox; clear hbox
  have HEX := Lib.hid (show exactD n x = (RR.2 && decide (fltDecD RR.1.1 RR.1.2 = (n, x))) from by unfold exactD; rw [hRR])
  clear hn hx hRR
  go_enter Tryz.func122, Tryz.ntmps122
  go_wp2_with fail
  generalize hW : w.alloc (.cells (cF n x) 91) = W0
  have q1 : Is W0 w.heap.size 91 (cF n x) := by subst hW; exact Is.new w _ _
  have H0 := Lib.hid (show Below w.heap.size w W0 from by subst hW; exact below1 _ _)
  have hs0 : W0.heap.size = w.heap.size + 1 := by subst hW; simp
  clear hW
  refine (spec_NearFlt n x W0 HN.out HX.out).mono ?_
  rintro ee w2 ⟨rfl, hb2⟩
  rw [HRR.out]
  have hs2 := hb2.size
  have p1 := q1.below hb2 (by omega)
  have HB2 := Lib.hid (H0.out.trans (hb2.mono (by omega))); clear hb2
  generalize hW : w2.alloc (.cells (cF RR.1.1 RR.1.2) 95) = w3
  have hb3 : Below w2.heap.size w2 w3 := by subst hW; exact below1 _ _
  have hs3 : w3.heap.size = w2.heap.size + 1 := by subst hW; simp
  have q3 : Is w3 w2.heap.size 95 (cF RR.1.1 RR.1.2) := by subst hW; exact Is.new _ _ _
  have p3 := p1.below hb3 (by omega)
  have HB3 := Lib.hid (HB2.out.trans (hb3.mono (by omega)))
  clear hb3 p1 q1 HB2 H0
  obtain ⟨rr, hrr⟩ : ∃ b, RR.2 = b := ⟨_, rfl⟩
  rw [hrr]
  have HR2 := Lib.hid hrr
  clear hrr
  try dsimp only
  obtain ⟨x0, x1⟩ := p3.cells2b
  obtain ⟨y0, y1⟩ := q3.cells2b
  have hl1 : w.heap.size < w3.heap.size := by omega
  have hl2 : w2.heap.size < w3.heap.size := by omega
  have HS3 := Lib.hid hs3
  clear hs3 hs2 hs0
  cases rr with
  | false =>
    have HF := Lib.hid (show exactD n x = false from by rw [HEX.out, HR2.out]; rfl)
    go_wp2_with fail
    clear hW
    refine wp_region_held_drew (S := fun w' => (∀ b o, b < w3.heap.size → w'.cell? ⟨b, o, none⟩ = w3.cell? ⟨b, o, none⟩) ∧ Below (w3.heap.size) w3 w') (by kernel_rfl) (by first | exact ⟨fun _ _ _ => rfl, (Below.refl _ _).drew⟩ | exact keep_step (by assumption) (Below.drew (Below.refl _ _)) (Nat.le_refl _) | exact keep_step (by assumption) (by assumption) (by first | omega | (simp only [World.size_drew]; omega) | (simp only [size_alloc]; omega) | (simp only [World.size_drew, size_alloc]; omega) | (have := (‹(_ ∧ Below (w3.heap.size) w3 _)›).2.size; first | omega | (simp only [World.size_drew]; omega) | (simp only [size_alloc]; omega) | (simp only [World.size_drew, size_alloc]; omega) | (simp only [World.size_drew] at this; omega) | (simp only [size_alloc] at this; omega) | (simp only [World.size_drew, size_alloc] at this; omega)))) (fun hHeld => ?_)
    refine wpAnyH_take (i := 0) (oi := ⟨some 10, _, _, _, _, _⟩) (v := ?_) rfl (by kernel_rfl) (by kernel_rfl) (by kernel_rfl) (fun _ _ _ h => h) (Or.inl ⟨by rfl, ?_⟩) (by assumption) ?_
    rotate_left 1
    · (intro w hSw; (try dsimp only at hSw); go_simp; try (with_reducible rfl))
    try simp only [Act.put, List.setIfInBounds_toArray, List.set_cons_zero, List.set_cons_succ]
    refine wpAnyH_take (i := 1) (oi := ⟨some 11, _, _, _, _, _⟩) (v := ?_) rfl (by kernel_rfl) (by kernel_rfl) (by kernel_rfl) (fun _ _ _ h => h) (Or.inl ⟨by rfl, ?_⟩) (by assumption) ?_
    rotate_left 1
    · (intro w hSw; (try dsimp only at hSw); go_simp; try (with_reducible rfl))
    try simp only [Act.put, List.setIfInBounds_toArray, List.set_cons_zero, List.set_cons_succ]
    refine wpAnyH_take (i := 2) (oi := ⟨some 12, _, _, _, _, _⟩) (v := undef) rfl (by kernel_rfl) (by kernel_rfl) (by kernel_rfl) (fun _ _ _ h => h) (Or.inr ⟨by rfl, rfl⟩) (by assumption) ?_
    try simp only [Act.put, List.setIfInBounds_toArray, List.set_cons_zero, List.set_cons_succ]
    refine wpAnyH_take (i := 3) (oi := ⟨some 13, _, _, _, _, _⟩) (v := undef) rfl (by kernel_rfl) (by kernel_rfl) (by kernel_rfl) (fun _ _ _ h => h) (Or.inr ⟨by rfl, rfl⟩) (by assumption) ?_
    try simp only [Act.put, List.setIfInBounds_toArray, List.set_cons_zero, List.set_cons_succ]
    refine wpAnyH_take (i := 4) (oi := ⟨some 14, _, _, _, _, _⟩) (v := undef) rfl (by kernel_rfl) (by kernel_rfl) (by kernel_rfl) (fun _ _ _ h => h) (Or.inr ⟨by rfl, rfl⟩) (by assumption) ?_
    try simp only [Act.put, List.setIfInBounds_toArray, List.set_cons_zero, List.set_cons_succ]
    refine wpAnyH_take (i := 5) (oi := ⟨some 15, _, _, _, _, _⟩) (v := undef) rfl (by kernel_rfl) (by kernel_rfl) (by kernel_rfl) (fun _ _ _ h => h) (Or.inr ⟨by rfl, rfl⟩) (by assumption) ?_
    try simp only [Act.put, List.setIfInBounds_toArray, List.set_cons_zero, List.set_cons_succ]
    refine wpAnyH_take (i := 6) (oi := ⟨some 16, _, _, _, _, _⟩) (v := ?_) rfl (by kernel_rfl) (by kernel_rfl) (by kernel_rfl) (fun _ _ _ h => h) (Or.inl ⟨by rfl, ?_⟩) (by assumption) ?_
    rotate_left 1
    · (intro w hSw; (try dsimp only at hSw); go_simp; try (with_reducible rfl))
    try simp only [Act.put, List.setIfInBounds_toArray, List.set_cons_zero, List.set_cons_succ]
    refine wpAnyH_take (i := 7) (oi := ⟨some 2, _, _, _, _, _⟩) (v := ?_) rfl (by kernel_rfl) (by kernel_rfl) (by kernel_rfl) (fun _ _ _ h => h) (Or.inl ⟨by rfl, ?_⟩) (by assumption) ?_
    rotate_left 1
    · (intro w hSw; (try dsimp only at hSw); go_simp; try (with_reducible rfl))
    try simp only [Act.put, List.setIfInBounds_toArray, List.set_cons_zero, List.set_cons_succ]
    refine wpAnyH_done (by kernel_rfl) ?_ _
    all_goals
      go_wp2_with fail
      go_ret
      exact ⟨by rw [HF.out]; rfl, HB3.out.trans (hHeld.2.mono (by have := HS3.out; omega))⟩
  | true =>
    go_wp2_with fail
    clear hW
    obtain ⟨⟨p, q⟩, hFF⟩ : ∃ f, fltDecD RR.1.1 RR.1.2 = f := ⟨_, rfl⟩
    have HFF := Lib.hid hFF
    rw [hFF] at HEX
    clear hFF
    by_cases hp : p = n
    · subst hp
      by_cases hq : q = x
      · subst hq
        have HF := Lib.hid (show exactD p q = true from by rw [HEX.out, HR2.out]; simp)
        go_region_held3 (fun w' => (∀ b o, b < w3.heap.size → w'.cell? ⟨b, o, none⟩ = w3.cell? ⟨b, o, none⟩) ∧ Below (w3.heap.size) w3 w') (first | exact ⟨fun _ _ _ => rfl, (Below.refl _ _).drew⟩ | exact keep_step (by assumption) (Below.drew (Below.refl _ _)) (Nat.le_refl _) | exact keep_step (by assumption) (by assumption) (by first | omega | (simp only [World.size_drew]; omega) | (simp only [size_alloc]; omega) | (simp only [World.size_drew, size_alloc]; omega) | (have := (‹(_ ∧ Below (w3.heap.size) w3 _)›).2.size; first | omega | (simp only [World.size_drew]; omega) | (simp only [size_alloc]; omega) | (simp only [World.size_drew, size_alloc]; omega) | (simp only [World.size_drew] at this; omega) | (simp only [size_alloc] at this; omega) | (simp only [World.size_drew, size_alloc] at this; omega))) | exact keep_step (by assumption) (below1 _ _) (by first | omega | (simp only [World.size_drew]; omega) | (simp only [size_alloc]; omega) | (simp only [World.size_drew, size_alloc]; omega) | (have := (‹(_ ∧ Below (w3.heap.size) w3 _)›).2.size; first | omega | (simp only [World.size_drew]; omega) | (simp only [size_alloc]; omega) | (simp only [World.size_drew, size_alloc]; omega) | (simp only [World.size_drew] at this; omega) | (simp only [size_alloc] at this; omega) | (simp only [World.size_drew, size_alloc] at this; omega)))) (first | (go_at_call 87; refine (spec_FltDec RR.1.1 RR.1.2 _ ⟨by have := HBOX.out; omega, by have := HBOX.out; omega⟩ ⟨by have := HBOX.out; omega, by have := HBOX.out; omega⟩).mono ?_; rintro e v ⟨rfl, hb⟩; rw [HFF.out]; (try dsimp only)))
        go_wp2_with fail
        go_ret
        exact ⟨by rw [HF.out]; rfl, HB3.out.trans ((‹_ ∧ Below (w3.heap.size) w3 _›).2.mono (by have := HS3.out; omega))⟩
      · have hqb : (q == x) = false := by simpa using hq
        have HF := Lib.hid (show exactD p x = false from by rw [HEX.out, HR2.out]; simp [hq])
        go_region_held3 (fun w' => (∀ b o, b < w3.heap.size → w'.cell? ⟨b, o, none⟩ = w3.cell? ⟨b, o, none⟩) ∧ Below (w3.heap.size) w3 w') (first | exact ⟨fun _ _ _ => rfl, (Below.refl _ _).drew⟩ | exact keep_step (by assumption) (Below.drew (Below.refl _ _)) (Nat.le_refl _) | exact keep_step (by assumption) (by assumption) (by first | omega | (simp only [World.size_drew]; omega) | (simp only [size_alloc]; omega) | (simp only [World.size_drew, size_alloc]; omega) | (have := (‹(_ ∧ Below (w3.heap.size) w3 _)›).2.size; first | omega | (simp only [World.size_drew]; omega) | (simp only [size_alloc]; omega) | (simp only [World.size_drew, size_alloc]; omega) | (simp only [World.size_drew] at this; omega) | (simp only [size_alloc] at this; omega) | (simp only [World.size_drew, size_alloc] at this; omega))) | exact keep_step (by assumption) (below1 _ _) (by first | omega | (simp only [World.size_drew]; omega) | (simp only [size_alloc]; omega) | (simp only [World.size_drew, size_alloc]; omega) | (have := (‹(_ ∧ Below (w3.heap.size) w3 _)›).2.size; first | omega | (simp only [World.size_drew]; omega) | (simp only [size_alloc]; omega) | (simp only [World.size_drew, size_alloc]; omega) | (simp only [World.size_drew] at this; omega) | (simp only [size_alloc] at this; omega) | (simp only [World.size_drew, size_alloc] at this; omega)))) (first | (go_at_call 87; refine (spec_FltDec RR.1.1 RR.1.2 _ ⟨by have := HBOX.out; omega, by have := HBOX.out; omega⟩ ⟨by have := HBOX.out; omega, by have := HBOX.out; omega⟩).mono ?_; rintro e v ⟨rfl, hb⟩; rw [HFF.out]; (try dsimp only)))
        go_wp2_with fail
        go_ret
        exact ⟨by rw [HF.out]; rfl, HB3.out.trans ((‹_ ∧ Below (w3.heap.size) w3 _›).2.mono (by have := HS3.out; omega))⟩
    · have hpb : (p == n) = false := by simpa using hp
      have HF := Lib.hid (show exactD n x = false from by rw [HEX.out, HR2.out]; simp [hp])
      go_region_held3 (fun w' => (∀ b o, b < w3.heap.size → w'.cell? ⟨b, o, none⟩ = w3.cell? ⟨b, o, none⟩) ∧ Below (w3.heap.size) w3 w') (first | exact ⟨fun _ _ _ => rfl, (Below.refl _ _).drew⟩ | exact keep_step (by assumption) (Below.drew (Below.refl _ _)) (Nat.le_refl _) | exact keep_step (by assumption) (by assumption) (by first | omega | (simp only [World.size_drew]; omega) | (simp only [size_alloc]; omega) | (simp only [World.size_drew, size_alloc]; omega) | (have := (‹(_ ∧ Below (w3.heap.size) w3 _)›).2.size; first | omega | (simp only [World.size_drew]; omega) | (simp only [size_alloc]; omega) | (simp only [World.size_drew, size_alloc]; omega) | (simp only [World.size_drew] at this; omega) | (simp only [size_alloc] at this; omega) | (simp only [World.size_drew, size_alloc] at this; omega))) | exact keep_step (by assumption) (below1 _ _) (by first | omega | (simp only [World.size_drew]; omega) | (simp only [size_alloc]; omega) | (simp only [World.size_drew, size_alloc]; omega) | (have := (‹(_ ∧ Below (w3.heap.size) w3 _)›).2.size; first | omega | (simp only [World.size_drew]; omega) | (simp only [size_alloc]; omega) | (simp only [World.size_drew, size_alloc]; omega) | (simp only [World.size_drew] at this; omega) | (simp only [size_alloc] at this; omega) | (simp only [World.size_drew, size_alloc] at this; omega)))) (first | (go_at_call 87; refine (spec_FltDec RR.1.1 RR.1.2 _ ⟨by have := HBOX.out; omega, by have := HBOX.out; omega⟩ ⟨by have := HBOX.out; omega, by have := HBOX.out; omega⟩).mono ?_; rintro e v ⟨rfl, hb⟩; rw [HFF.out]; (try dsimp only)))
      go_wp2_with fail
      go_ret
      exact ⟨by rw [HF.out]; rfl, HB3.out.trans ((‹_ ∧ Below (w3.heap.size) w3 _›).2.mono (by have := HS3.out; omega))⟩
set_option maxHeartbeats 4000000 in
theorem impl_Exact (n x : Int) (w : World) (hn : I64 n) (hx : I64 x) (htab : Lib.TabBelow Tryz.prog w.heap.size w "internal/strconv.uint64pow10" .u64 Lib.pow10Tab) :
    Calls Tryz.prog 79 #[.agg (cF n x)] w fun e w' => e = .returned (.bool (exactD n x)) ∧ Below w.heap.size w w' := by
  obtain ⟨RR, hRR⟩ : ∃ r, nearD n x = r := ⟨_, rfl⟩
  have HRR := Lib.hid hRR
  have HN := Lib.hid hn
  have HX := Lib.hid hx
  have HT := Lib.hid htab; clear htab
  have hbox := nearD_box n x
  rw [hRR] at hbox
  have HBOX := Lib.hid hbox; clear hbox
  have HEX := Lib.hid (show exactD n x = (RR.2 && decide (fltDecD RR.1.1 RR.1.2 = (n, x))) from by unfold exactD; rw [hRR])
  clear hn hx hRR
  go_enter Tryz.func79, Tryz.ntmps79
  go_wp2_with fail
  generalize hW : w.alloc (.cells (cF n x) 91) = W0
  have q1 : Is W0 w.heap.size 91 (cF n x) := by subst hW; exact Is.new w _ _
  have H0 := Lib.hid (show Below w.heap.size w W0 from by subst hW; exact below1 _ _)
  have hs0 : W0.heap.size = w.heap.size + 1 := by subst hW; simp
  clear hW
  refine (impl_NearFlt n x W0 HN.out HX.out (fun V hV => HT.out V (H0.out.trans (hV.mono (by omega))))).mono ?_
  rintro ee w2 ⟨rfl, hb2⟩
  rw [HRR.out]
  have hs2 := hb2.size
  have p1 := q1.below hb2 (by omega)
  have HB2 := Lib.hid (H0.out.trans (hb2.mono (by omega))); clear hb2
  generalize hW : w2.alloc (.cells (cF RR.1.1 RR.1.2) 95) = w3
  have hb3 : Below w2.heap.size w2 w3 := by subst hW; exact below1 _ _
  have hs3 : w3.heap.size = w2.heap.size + 1 := by subst hW; simp
  have q3 : Is w3 w2.heap.size 95 (cF RR.1.1 RR.1.2) := by subst hW; exact Is.new _ _ _
  have p3 := p1.below hb3 (by omega)
  have HB3 := Lib.hid (HB2.out.trans (hb3.mono (by omega)))
  clear hb3 p1 q1 HB2 H0
  obtain ⟨rr, hrr⟩ : ∃ b, RR.2 = b := ⟨_, rfl⟩
  rw [hrr]
  have HR2 := Lib.hid hrr
  clear hrr
  try dsimp only
  obtain ⟨x0, x1⟩ := p3.cells2b
  obtain ⟨y0, y1⟩ := q3.cells2b
  have hl1 : w.heap.size < w3.heap.size := by omega
  have hl2 : w2.heap.size < w3.heap.size := by omega
  have HS3 := Lib.hid hs3
  clear hs3 hs2 hs0
  cases rr with
  | false =>
    have HF := Lib.hid (show exactD n x = false from by rw [HEX.out, HR2.out]; rfl)
    go_wp2_with fail
    clear hW
    refine wp_region_held_drew (S := fun w' => (∀ b o, b < w3.heap.size → w'.cell? ⟨b, o, none⟩ = w3.cell? ⟨b, o, none⟩) ∧ Below (w3.heap.size) w3 w') (by kernel_rfl) (by first | exact ⟨fun _ _ _ => rfl, (Below.refl _ _).drew⟩ | exact keep_step (by assumption) (Below.drew (Below.refl _ _)) (Nat.le_refl _) | exact keep_step (by assumption) (by assumption) (by first | omega | (simp only [World.size_drew]; omega) | (simp only [size_alloc]; omega) | (simp only [World.size_drew, size_alloc]; omega) | (have := (‹(_ ∧ Below (w3.heap.size) w3 _)›).2.size; first | omega | (simp only [World.size_drew]; omega) | (simp only [size_alloc]; omega) | (simp only [World.size_drew, size_alloc]; omega) | (simp only [World.size_drew] at this; omega) | (simp only [size_alloc] at this; omega) | (simp only [World.size_drew, size_alloc] at this; omega)))) (fun hHeld => ?_)
    refine wpAnyH_take (i := 0) (oi := ⟨some 10, _, _, _, _, _⟩) (v := ?_) rfl (by kernel_rfl) (by kernel_rfl) (by kernel_rfl) (fun _ _ _ h => h) (Or.inl ⟨by rfl, ?_⟩) (by assumption) ?_
    rotate_left 1
    · (intro w hSw; (try dsimp only at hSw); go_simp; try (with_reducible rfl))
    try simp only [Act.put, List.setIfInBounds_toArray, List.set_cons_zero, List.set_cons_succ]
    refine wpAnyH_take (i := 1) (oi := ⟨some 11, _, _, _, _, _⟩) (v := ?_) rfl (by kernel_rfl) (by kernel_rfl) (by kernel_rfl) (fun _ _ _ h => h) (Or.inl ⟨by rfl, ?_⟩) (by assumption) ?_
    rotate_left 1
    · (intro w hSw; (try dsimp only at hSw); go_simp; try (with_reducible rfl))
    try simp only [Act.put, List.setIfInBounds_toArray, List.set_cons_zero, List.set_cons_succ]
    refine wpAnyH_take (i := 2) (oi := ⟨some 12, _, _, _, _, _⟩) (v := undef) rfl (by kernel_rfl) (by kernel_rfl) (by kernel_rfl) (fun _ _ _ h => h) (Or.inr ⟨by rfl, rfl⟩) (by assumption) ?_
    try simp only [Act.put, List.setIfInBounds_toArray, List.set_cons_zero, List.set_cons_succ]
    refine wpAnyH_take (i := 3) (oi := ⟨some 13, _, _, _, _, _⟩) (v := undef) rfl (by kernel_rfl) (by kernel_rfl) (by kernel_rfl) (fun _ _ _ h => h) (Or.inr ⟨by rfl, rfl⟩) (by assumption) ?_
    try simp only [Act.put, List.setIfInBounds_toArray, List.set_cons_zero, List.set_cons_succ]
    refine wpAnyH_take (i := 4) (oi := ⟨some 14, _, _, _, _, _⟩) (v := undef) rfl (by kernel_rfl) (by kernel_rfl) (by kernel_rfl) (fun _ _ _ h => h) (Or.inr ⟨by rfl, rfl⟩) (by assumption) ?_
    try simp only [Act.put, List.setIfInBounds_toArray, List.set_cons_zero, List.set_cons_succ]
    refine wpAnyH_take (i := 5) (oi := ⟨some 15, _, _, _, _, _⟩) (v := undef) rfl (by kernel_rfl) (by kernel_rfl) (by kernel_rfl) (fun _ _ _ h => h) (Or.inr ⟨by rfl, rfl⟩) (by assumption) ?_
    try simp only [Act.put, List.setIfInBounds_toArray, List.set_cons_zero, List.set_cons_succ]
    refine wpAnyH_take (i := 6) (oi := ⟨some 16, _, _, _, _, _⟩) (v := ?_) rfl (by kernel_rfl) (by kernel_rfl) (by kernel_rfl) (fun _ _ _ h => h) (Or.inl ⟨by rfl, ?_⟩) (by assumption) ?_
    rotate_left 1
    · (intro w hSw; (try dsimp only at hSw); go_simp; try (with_reducible rfl))
    try simp only [Act.put, List.setIfInBounds_toArray, List.set_cons_zero, List.set_cons_succ]
    refine wpAnyH_take (i := 7) (oi := ⟨some 2, _, _, _, _, _⟩) (v := ?_) rfl (by kernel_rfl) (by kernel_rfl) (by kernel_rfl) (fun _ _ _ h => h) (Or.inl ⟨by rfl, ?_⟩) (by assumption) ?_
    rotate_left 1
    · (intro w hSw; (try dsimp only at hSw); go_simp; try (with_reducible rfl))
    try simp only [Act.put, List.setIfInBounds_toArray, List.set_cons_zero, List.set_cons_succ]
    refine wpAnyH_done (by kernel_rfl) ?_ _
    all_goals
      go_wp2_with fail
      go_ret
      exact ⟨by rw [HF.out]; rfl, HB3.out.trans (hHeld.2.mono (by have := HS3.out; omega))⟩
  | true =>
    go_wp2_with fail
    clear hW
    obtain ⟨⟨p, q⟩, hFF⟩ : ∃ f, fltDecD RR.1.1 RR.1.2 = f := ⟨_, rfl⟩
    have HFF := Lib.hid hFF
    rw [hFF] at HEX
    clear hFF
    by_cases hp : p = n
    · subst hp
      by_cases hq : q = x
      · subst hq
        have HF := Lib.hid (show exactD p q = true from by rw [HEX.out, HR2.out]; simp)
        go_region_held3 (fun w' => (∀ b o, b < w3.heap.size → w'.cell? ⟨b, o, none⟩ = w3.cell? ⟨b, o, none⟩) ∧ Below (w3.heap.size) w3 w') (first | exact ⟨fun _ _ _ => rfl, (Below.refl _ _).drew⟩ | exact keep_step (by assumption) (Below.drew (Below.refl _ _)) (Nat.le_refl _) | exact keep_step (by assumption) (by assumption) (by first | omega | (simp only [World.size_drew]; omega) | (simp only [size_alloc]; omega) | (simp only [World.size_drew, size_alloc]; omega) | (have := (‹(_ ∧ Below (w3.heap.size) w3 _)›).2.size; first | omega | (simp only [World.size_drew]; omega) | (simp only [size_alloc]; omega) | (simp only [World.size_drew, size_alloc]; omega) | (simp only [World.size_drew] at this; omega) | (simp only [size_alloc] at this; omega) | (simp only [World.size_drew, size_alloc] at this; omega))) | exact keep_step (by assumption) (below1 _ _) (by first | omega | (simp only [World.size_drew]; omega) | (simp only [size_alloc]; omega) | (simp only [World.size_drew, size_alloc]; omega) | (have := (‹(_ ∧ Below (w3.heap.size) w3 _)›).2.size; first | omega | (simp only [World.size_drew]; omega) | (simp only [size_alloc]; omega) | (simp only [World.size_drew, size_alloc]; omega) | (simp only [World.size_drew] at this; omega) | (simp only [size_alloc] at this; omega) | (simp only [World.size_drew, size_alloc] at this; omega)))) (first | (go_at_call 81; refine (impl_FltDec RR.1.1 RR.1.2 _ ⟨by have := HBOX.out; omega, by have := HBOX.out; omega⟩ ⟨by have := HBOX.out; omega, by have := HBOX.out; omega⟩ (fun V hV => HT.out V ((HB3.out.trans ((‹_ ∧ Below (w3.heap.size) w3 _›).2.mono (by omega))).trans (hV.mono (by have := (‹_ ∧ Below (w3.heap.size) w3 _›).2.size; omega))))).mono ?_; rintro e v ⟨rfl, hb⟩; rw [HFF.out]; (try dsimp only)))
        go_wp2_with fail
        go_ret
        exact ⟨by rw [HF.out]; rfl, HB3.out.trans ((‹_ ∧ Below (w3.heap.size) w3 _›).2.mono (by have := HS3.out; omega))⟩
      · have hqb : (q == x) = false := by simpa using hq
        have HF := Lib.hid (show exactD p x = false from by rw [HEX.out, HR2.out]; simp [hq])
        go_region_held3 (fun w' => (∀ b o, b < w3.heap.size → w'.cell? ⟨b, o, none⟩ = w3.cell? ⟨b, o, none⟩) ∧ Below (w3.heap.size) w3 w') (first | exact ⟨fun _ _ _ => rfl, (Below.refl _ _).drew⟩ | exact keep_step (by assumption) (Below.drew (Below.refl _ _)) (Nat.le_refl _) | exact keep_step (by assumption) (by assumption) (by first | omega | (simp only [World.size_drew]; omega) | (simp only [size_alloc]; omega) | (simp only [World.size_drew, size_alloc]; omega) | (have := (‹(_ ∧ Below (w3.heap.size) w3 _)›).2.size; first | omega | (simp only [World.size_drew]; omega) | (simp only [size_alloc]; omega) | (simp only [World.size_drew, size_alloc]; omega) | (simp only [World.size_drew] at this; omega) | (simp only [size_alloc] at this; omega) | (simp only [World.size_drew, size_alloc] at this; omega))) | exact keep_step (by assumption) (below1 _ _) (by first | omega | (simp only [World.size_drew]; omega) | (simp only [size_alloc]; omega) | (simp only [World.size_drew, size_alloc]; omega) | (have := (‹(_ ∧ Below (w3.heap.size) w3 _)›).2.size; first | omega | (simp only [World.size_drew]; omega) | (simp only [size_alloc]; omega) | (simp only [World.size_drew, size_alloc]; omega) | (simp only [World.size_drew] at this; omega) | (simp only [size_alloc] at this; omega) | (simp only [World.size_drew, size_alloc] at this; omega)))) (first | (go_at_call 81; refine (impl_FltDec RR.1.1 RR.1.2 _ ⟨by have := HBOX.out; omega, by have := HBOX.out; omega⟩ ⟨by have := HBOX.out; omega, by have := HBOX.out; omega⟩ (fun V hV => HT.out V ((HB3.out.trans ((‹_ ∧ Below (w3.heap.size) w3 _›).2.mono (by omega))).trans (hV.mono (by have := (‹_ ∧ Below (w3.heap.size) w3 _›).2.size; omega))))).mono ?_; rintro e v ⟨rfl, hb⟩; rw [HFF.out]; (try dsimp only)))
        go_wp2_with fail
        go_ret
        exact ⟨by rw [HF.out]; rfl, HB3.out.trans ((‹_ ∧ Below (w3.heap.size) w3 _›).2.mono (by have := HS3.out; omega))⟩
    · have hpb : (p == n) = false := by simpa using hp
      have HF := Lib.hid (show exactD n x = false from by rw [HEX.out, HR2.out]; simp [hp])
      go_region_held3 (fun w' => (∀ b o, b < w3.heap.size → w'.cell? ⟨b, o, none⟩ = w3.cell? ⟨b, o, none⟩) ∧ Below (w3.heap.size) w3 w') (first | exact ⟨fun _ _ _ => rfl, (Below.refl _ _).drew⟩ | exact keep_step (by assumption) (Below.drew (Below.refl _ _)) (Nat.le_refl _) | exact keep_step (by assumption) (by assumption) (by first | omega | (simp only [World.size_drew]; omega) | (simp only [size_alloc]; omega) | (simp only [World.size_drew, size_alloc]; omega) | (have := (‹(_ ∧ Below (w3.heap.size) w3 _)›).2.size; first | omega | (simp only [World.size_drew]; omega) | (simp only [size_alloc]; omega) | (simp only [World.size_drew, size_alloc]; omega) | (simp only [World.size_drew] at this; omega) | (simp only [size_alloc] at this; omega) | (simp only [World.size_drew, size_alloc] at this; omega))) | exact keep_step (by assumption) (below1 _ _) (by first | omega | (simp only [World.size_drew]; omega) | (simp only [size_alloc]; omega) | (simp only [World.size_drew, size_alloc]; omega) | (have := (‹(_ ∧ Below (w3.heap.size) w3 _)›).2.size; first | omega | (simp only [World.size_drew]; omega) | (simp only [size_alloc]; omega) | (simp only [World.size_drew, size_alloc]; omega) | (simp only [World.size_drew] at this; omega) | (simp only [size_alloc] at this; omega) | (simp only [World.size_drew, size_alloc] at this; omega)))) (first | (go_at_call 81; refine (impl_FltDec RR.1.1 RR.1.2 _ ⟨by have := HBOX.out; omega, by have := HBOX.out; omega⟩ ⟨by have := HBOX.out; omega, by have := HBOX.out; omega⟩ (fun V hV => HT.out V ((HB3.out.trans ((‹_ ∧ Below (w3.heap.size) w3 _›).2.mono (by omega))).trans (hV.mono (by have := (‹_ ∧ Below (w3.heap.size) w3 _›).2.size; omega))))).mono ?_; rintro e v ⟨rfl, hb⟩; rw [HFF.out]; (try dsimp only)))
      go_wp2_with fail
      go_ret
      exact ⟨by rw [HF.out]; rfl, HB3.out.trans ((‹_ ∧ Below (w3.heap.size) w3 _›).2.mono (by have := HS3.out; omega))⟩
set_option maxHeartbeats 4000000 in
theorem spec_l19Near (t : T) (a : Option Addr) (cap : Nat) (w : World) (hn : I64 t.n) (hx : I64 t.x) :
    Calls Tryz.prog 85 #[.agg (cV t a cap)] w fun e w' => e = .returned (.tuple #[.agg (cV (nearW t.n t.x).1 none 0), .int .i64 (nearW t.n t.x).2]) ∧ Below w.heap.size w w' := by
  have hnil := nearW_l t.n t.x
  obtain ⟨k, n, x, s, l⟩ := t
  simp only [T.n, T.x] at hnil
  simp only [cV, T.k, T.n, T.x, T.s, T.l] at hn hx ⊢
  obtain ⟨RR, hRR⟩ : ∃ r, nearD n x = r := ⟨_, rfl⟩
  have HRR := Lib.hid hRR
  have HN := Lib.hid hn
  have HX := Lib.hid hx
  clear hn hx hRR hnil
  go_enter Tryz.func85, Tryz.ntmps85
  go_wp2_with fail
  generalize hW : ((w.alloc (Obj.cells #[Value.int IntKind.i64 k, Value.int IntKind.i64 n, Value.int IntKind.i64 x, Value.string s, Value.slice a l.length cap] 36)).alloc (Obj.cells zV 36)).alloc (.cells (cF n x) 91) = W0
  have q2 : Is W0 (w.heap.size + 1) 36 zV := by subst hW; exact (Is.new2 _ _ _ _).alloc _
  have qd : Is W0 (w.heap.size + 1 + 1) 91 (cF n x) := by subst hW; exact Is.new3 _ _ _ _ _
  have hs0 : W0.heap.size = w.heap.size + 3 := by subst hW; simp
  have H0 := Lib.hid (show Below w.heap.size w W0 from by subst hW; exact below3 _ _ _ _)
  clear hW
  refine (spec_NearFlt n x W0 HN.out HX.out).mono ?_
  rintro ee w2 ⟨rfl, hb2⟩
  rw [HRR.out]
  have hs2 := hb2.size
  have p2 := q2.below hb2 (by omega)
  have pd := qd.below hb2 (by omega)
  have HB2 := Lib.hid (H0.out.trans (hb2.mono (by omega))); clear hb2
  generalize hW : w2.alloc (.cells (cF RR.1.1 RR.1.2) 95) = w3
  have hb3 : Below w2.heap.size w2 w3 := by subst hW; exact below1 _ _
  have hs3 : w3.heap.size = w2.heap.size + 1 := by subst hW; simp
  have g3 : Is w3 w2.heap.size 95 (cF RR.1.1 RR.1.2) := by subst hW; exact Is.new _ _ _
  have g2 := p2.below hb3 (by omega)
  have gd := pd.below hb3 (by omega)
  have HB3 := Lib.hid (HB2.out.trans (hb3.mono (by omega)))
  clear hb3 p2 pd q2 qd HB2 H0
  obtain ⟨rr, hrr⟩ : ∃ b, RR.2 = b := ⟨_, rfl⟩
  rw [hrr]
  have HR2 := Lib.hid hrr
  clear hrr
  try dsimp only
  cases rr with
  | false =>
    have HL2 := Lib.hid (show nearW n x = (.mk 1 0 0 ⟨#[]⟩ [], 3) from by unfold nearW; rw [HRR.out, HR2.out]; rfl)
    obtain ⟨o0, o1, o2, o3, o4⟩ := g2.cells5
    have f2 := fun i => g2.frozen i
    have hl1 : w.heap.size + 1 < w3.heap.size := by omega
    try dsimp only
    repeat (first | go_values | go_skip | go_guarded | go_step | go_upon)
    obtain ⟨e0, e1, e2, e3, e4, hbel, hold, hsz⟩ := out5 g2.blk (.int .i64 1) (.int .i64 0) (.int .i64 0) (.string ⟨#[]⟩) (.slice none 0 0) w.heap.size (by omega)
    rw [HL2.out]
    refine bodyPost_ret (v := .tuple #[.agg #[.int .i64 1, .int .i64 0, .int .i64 0, .string ⟨#[]⟩, .slice none 0 0], .int .i64 3]) (by simp [results, Tryz.results85, go_sem, e0, e1, e2, e3, e4]) rfl ⟨rfl, HB3.out.trans hbel⟩
  | true =>
    obtain ⟨d0, d1⟩ := gd.cells2b
    have hl2 : w.heap.size + 1 + 1 < w3.heap.size := by omega
    go_wp2_with fail
    clear hW
    refine (spec_Exact n x w3 HN.out HX.out).mono ?_
    rintro ee w4 ⟨rfl, hb4⟩
    have hs4 := hb4.size
    have p2 := g2.below hb4 (by omega)
    have p3 := g3.below hb4 (by omega)
    have HB4 := Lib.hid (HB3.out.trans (hb4.mono (by omega)))
    clear hb4 d0 d1 g2 g3 gd HB3
    obtain ⟨y0, y1⟩ := p3.cells2b
    have hl3 : w2.heap.size < w4.heap.size := by omega
    obtain ⟨bb, hbb⟩ : ∃ b, exactD n x = b := ⟨_, rfl⟩
    rw [hbb]
    have HBB := Lib.hid hbb; clear hbb
    cases bb with
    | false =>
      have HL2 := Lib.hid (show nearW n x = (.mk 4 RR.1.1 RR.1.2 ⟨#[]⟩ [], 2) from by unfold nearW; rw [HRR.out, HR2.out, HBB.out]; rfl)
      go_wp2_with fail
      refine (spec_l6FltVal RR.1.1 RR.1.2 _).mono ?_
      rintro ee w5 ⟨rfl, hb5⟩
      have hs5 := hb5.size
      have p5 := p2.below hb5 (by omega)
      have HB5 := Lib.hid (HB4.out.trans (hb5.mono (by omega)))
      have hl5 : w.heap.size + 1 < w5.heap.size := by omega
      have f5 := fun i => p5.frozen i
      obtain ⟨o0, o1, o2, o3, o4⟩ := p5.cells5
      clear hb5
      try dsimp only
      repeat (first | go_values | go_skip | go_guarded | go_step | go_upon)
      obtain ⟨e0, e1, e2, e3, e4, hbel, hold, hsz⟩ := out5 p5.blk (.int .i64 4) (.int .i64 RR.1.1) (.int .i64 RR.1.2) (.string ⟨#[]⟩) (.slice none 0 0) w.heap.size (by omega)
      rw [HL2.out]
      refine bodyPost_ret (v := .tuple #[.agg #[.int .i64 4, .int .i64 RR.1.1, .int .i64 RR.1.2, .string ⟨#[]⟩, .slice none 0 0], .int .i64 2]) (by simp [results, Tryz.results85, go_sem, e0, e1, e2, e3, e4]) rfl ⟨rfl, HB5.out.trans hbel⟩
    | true =>
      have HL2 := Lib.hid (show nearW n x = (.mk 4 RR.1.1 RR.1.2 ⟨#[]⟩ [], 1) from by unfold nearW; rw [HRR.out, HR2.out, HBB.out]; rfl)
      go_wp2_with fail
      refine (spec_l6FltVal RR.1.1 RR.1.2 _).mono ?_
      rintro ee w5 ⟨rfl, hb5⟩
      have hs5 := hb5.size
      have p5 := p2.below hb5 (by omega)
      have HB5 := Lib.hid (HB4.out.trans (hb5.mono (by omega)))
      have hl5 : w.heap.size + 1 < w5.heap.size := by omega
      have f5 := fun i => p5.frozen i
      obtain ⟨o0, o1, o2, o3, o4⟩ := p5.cells5
      clear hb5
      try dsimp only
      repeat (first | go_values | go_skip | go_guarded | go_step | go_upon)
      obtain ⟨e0, e1, e2, e3, e4, hbel, hold, hsz⟩ := out5 p5.blk (.int .i64 4) (.int .i64 RR.1.1) (.int .i64 RR.1.2) (.string ⟨#[]⟩) (.slice none 0 0) w.heap.size (by omega)
      rw [HL2.out]
      refine bodyPost_ret (v := .tuple #[.agg #[.int .i64 4, .int .i64 RR.1.1, .int .i64 RR.1.2, .string ⟨#[]⟩, .slice none 0 0], .int .i64 1]) (by simp [results, Tryz.results85, go_sem, e0, e1, e2, e3, e4]) rfl ⟨rfl, HB5.out.trans hbel⟩
end Go.Proofs.YtpifadjlbjifhaaGreatDoor
