/- Contracts and lemmas for the proofs of this seat: PText2. No condition beyond those stated. -/
import Derived.Test.YtfbgmhjjdgglnaaDoorRows
import Derived.WalkKit
import Derived.ProofKit
import Derived.OpenShut
import Derived.Handy
import Derived.Lib.Hide
import Derived.Lib.SmallJoins
import Derived.Deep.RegionHeld3
import Derived.Deep.AppendLies
import Derived.Deep.QuietTactic
import Derived.BigQuiet
import Derived.Lib.AppendIntMem
import Derived.Lib.ItoaLen
import Derived.Test.YtfbgmhjjdgglnaaDoorBase
import Derived.Test.YtfbgmhjjdgglnaaDoorGen
import Derived.Test.YtfbgmhjjdgglnaaDoorKit
import Derived.Test.YtfbgmhjjdgglnaaDoorMark
import Derived.Test.YtfbgmhjjdgglnaaDoorApp
import Derived.Test.YtfbgmhjjdgglnaaDoorMarkV
import Derived.Test.YtfbgmhjjdgglnaaDoorLawVal
import Derived.Test.YtfbgmhjjdgglnaaDoorCopy
import Derived.Test.YtfbgmhjjdgglnaaDoorPathAt
import Derived.Test.YtfbgmhjjdgglnaaDoorPathAt2
import Derived.Test.YtfbgmhjjdgglnaaDoorShelf
import Derived.Test.YtfbgmhjjdgglnaaDoorNum
import Derived.Test.YtfbgmhjjdgglnaaDoorPText
namespace Go.Proofs.YtfbgmhjjdgglnaaDoor
open Go.ChangeShapes Go.WideShapes Go.ChangeAt Go.RowKit Go.Joins
set_option linter.unusedVariables false
set_option maxRecDepth 100000
theorem elT_szL {x : T} {s : St} (h : okI x s) : T.szL (elT x s).l ≤ T.szL x.l := by
  obtain ⟨i, hil, _, hel⟩ := okI_nat h
  rw [hel hil]
  have := T.sz_get x.l i hil
  have := s_le_sz x.l[i]
  omega
set_option maxHeartbeats 1000000 in
theorem impl_PathText (t : T) (p : List St) (a a' : Option Addr) (cap cap' B : Nat) (w : World) (hr : R w B a cap t.l) (hr' : Rd EStep 2 w B a' cap' p) (hct : T.count t ≤ 1073741824) (hsz : T.szL t.l ≤ 1073741824) (htab : Lib.TabBelow Tryd.prog B w "internal/strconv.uint64pow10" .u64 Lib.pow10Tab) (hB : B ≤ w.heap.size) :
    Calls Tryd.prog 33 #[.agg (cV t a cap), .slice a' p.length cap'] w fun e w' => e = .returned (.string (pathT t ⟨#[36]⟩ p)) ∧ Below w.heap.size w w' := by
  obtain ⟨hl1, hl2⟩ := hr.len
  obtain ⟨hm1, hm2⟩ := hr'.len
  have HR := Lib.hid hr; clear hr
  have HR' := Lib.hid hr'; clear hr'
  have HTAB := Lib.hid htab; clear htab
  have HCT := Lib.hid hct; clear hct
  go_enter Tryd.func33, Tryd.ntmps33
  go_wp2_with fail
  generalize hW : w.alloc (Obj.cells (cV t a cap) 31) = W0
  have q1 : Is W0 w.heap.size 31 (cV t a cap) := by subst hW; exact Is.new _ _ _
  have H0 := Lib.hid (show Below w.heap.size w W0 from by subst hW; exact below1 _ _)
  have hs0 : W0.heap.size = w.heap.size + 1 := by subst hW; simp
  clear hW
  have hz36 : (⟨#[36]⟩ : ByteArray).size = 1 := rfl
  go_loopw [11, 5, 7, 8] (fun i s _ _ wr => ∃ (j : Nat) (x : T) (ax : Option Addr) (cx : Nat) (o : ByteArray), j ≤ p.length ∧ i = .int .i64 j ∧ s = .string o ∧ Is wr w.heap.size 31 (cV x ax cx) ∧ R wr B ax cx x.l ∧ T.count x ≤ 1073741824 ∧ o.size + 24 * T.szL x.l ≤ 1 + 24 * T.szL t.l ∧ Hid (pathT t ⟨#[36]⟩ p = pathT x o (p.drop j)) ∧ Below w.heap.size w wr ∧ w.heap.size + 1 ≤ wr.heap.size) (fun i _ _ _ _ => p.length - (intOf i).toNat)
  case atStart => exact ⟨0, t, a, cap, _, Nat.zero_le _, rfl, rfl, q1, HR.out.below H0.out hB, HCT.out, by omega, rfl, H0.out, by omega⟩
  case round =>
    obtain ⟨j, x, ax, cx, o, hj, rfl, rfl, hbox, hrd, hcx, hos, HP, hb, hws⟩ := hrel
    have hbs := hb.size
    have hfb := fun i => hbox.frozen i
    obtain ⟨x0, x1, x2, x3, x4⟩ := hbox.cells5
    have l2 : w.heap.size < wr.heap.size := by omega
    by_cases hlt : j < p.length
    · obtain ⟨b, o2, ha, hbl, d0, d1, hi⟩ := (HR'.out.below EStep.loc hb hB).step j hlt
      subst ha
      have hlb : b < wr.heap.size := by omega
      have hlx : x.l.length ≤ 1073741824 := by have := T.length_le_countL x.l; cases x; simp only [T.count, T.l] at *; omega
      have HC := Lib.hid hcx; clear hcx
      have HX := Lib.hid hrd; clear hrd
      have H1 := Lib.hid (below1 wr (.cells #[.int .i64 p[j].1, .bool p[j].2] 87))
      have hst := Is.new wr #[.int .i64 p[j].1, .bool p[j].2] 87
      go_wp2_with fail
      refine (impl_index x p[j] ax cx _ hi hlx).mono ?_
      rintro e w3 ⟨rfl, hb3⟩
      have hst3 := hst.below hb3 (by simp)
      have g0 := hst3.cell 0 rfl
      have g1 := hst3.cell 1 rfl
      simp only [List.getElem_toArray, List.getElem_cons_zero, List.getElem_cons_succ] at g0 g1
      have HB3 := Lib.hid (H1.out.trans (hb3.mono (by simp))); 
      have hs3 := HB3.out.size
      have lst : wr.heap.size < w3.heap.size := by have := hb3.size; simp only [size_alloc] at this; omega
      clear hb3
      have hbox3 := hbox.below HB3.out l2
      have fb3 := fun i => hbox3.frozen i
      obtain ⟨t0, t1, t2, t3, t4⟩ := hbox3.cells5
      by_cases hok : okI x p[j]
      · obtain ⟨i, hil, hie, hel⟩ := okI_nat hok
        have HST := Lib.hid (show pathT t ⟨#[36]⟩ p = pathT x.l[i] (o ++ stepT x p[j]) (p.drop (j + 1)) from by rw [← hel hil]; exact HP.out.trans (pathT_ok hlt hok))
        have HCE := Lib.hid (show T.count x.l[i] ≤ 1073741824 from by rw [← hel hil]; exact elT_count p[j] HC.out)
        have hroom : (stepT x p[j]).size + 24 * T.szL x.l[i].l ≤ 24 * T.szL x.l := by rw [← hel hil]; exact step_room hok hi
        have HOK := Lib.hid hok
        rw [idxT_ok hok, hie]
        clear hok hie hel
        go_wp2_with fail
        refine (impl_stepText x p[j] ax cx B w3 (HX.out.below HB3.out (by omega)) hi HOK.out hlx (by omega) (fun W hW => HTAB.out W (((hb.trans (HB3.out.mono hbs)).mono hB).trans hW)) (by omega)).mono ?_
        rintro e w4 ⟨rfl, hb4⟩
        have HB4 := Lib.hid (HB3.out.trans (hb4.mono (by omega))); 
        have hs4 := HB4.out.size
        clear hb4
        have hbox4 := hbox.below HB4.out l2
        have fb4 := fun i => hbox4.frozen i
        obtain ⟨u0, u1, u2, u3, u4⟩ := hbox4.cells5
        clear t0 t1 t2 t3 t4 fb3 x0 x1 x2 x3 x4 hfb
        have hXr := HX.out.below HB4.out (by omega)
        obtain ⟨b2, o2, a3, cap3, ha, hbl2, g0, g1, g2, g3, g4, _, hq⟩ := hXr.get i hil
        subst ha
        have HQ := Lib.hid hq; clear hq hXr
        go_wp2_with fail
        go_roundw
        case rel =>
          obtain ⟨_, _, _, _, _, hbel, hold, hsz⟩ := out5 hbox4.blk (.int .i64 x.l[i].k) (.int .i64 x.l[i].n) (.int .i64 x.l[i].x) (.string x.l[i].s) (.slice a3 x.l[i].l.length cap3) w.heap.size (Nat.le_refl _)
          exact ⟨j + 1, x.l[i], a3, cap3, _, by omega, by go_num, rfl, hbox4.set5 _ _ _ _ _, HQ.out.below hbel hB, HCE.out, by rw [ByteArray.size_append]; omega, HST.out, (hb.trans (HB4.out.mono hbs)).trans hbel, by rw [hsz]; omega⟩
        case measure => simp [intOf]; omega
      · have HST := Lib.hid (HP.out.trans (pathT_no hlt hok))
        rw [idxT_no hok]
        clear hok
        go_wp2_with fail
        go_ret
        exact ⟨ret_s HST.out.symm, hb.trans (HB3.out.mono hbs)⟩
    · have hjj : p.length = j := by omega
      have HJ := Lib.hid (show pathT t ⟨#[36]⟩ p = o from HP.out.trans (by rw [← hjj]; exact pathT_end x o p)); clear hjj
      go_wp2_with fail
      go_ret
      exact ⟨ret_s HJ.out.symm, hb⟩
set_option maxHeartbeats 1000000 in
theorem spec_PathText (t : T) (p : List St) (a a' : Option Addr) (cap cap' B : Nat) (w : World) (hr : R w B a cap t.l) (hr' : Rd EStep 2 w B a' cap' p) (hwf : Wf t) (hct : T.count t ≤ 1073741824) (hsz : T.szL t.l ≤ 1073741824) (hB : B ≤ w.heap.size) :
    Calls Tryd.prog 29 #[.agg (cV t a cap), .slice a' p.length cap'] w fun e w' => e = .returned (.string (pathT t ⟨#[36]⟩ p)) ∧ Below w.heap.size w w' := by
  obtain ⟨hl1, hl2⟩ := hr.len
  obtain ⟨hm1, hm2⟩ := hr'.len
  have HR := Lib.hid hr; clear hr
  have HR' := Lib.hid hr'; clear hr'
  have hz36 : (⟨#[36]⟩ : ByteArray).size = 1 := rfl
  go_enter Tryd.func29, Tryd.ntmps29
  go_wp2_with fail
  generalize hW : w.alloc (Obj.cells (cV t a cap) 31) = W0
  have H0 := Lib.hid (show Below w.heap.size w W0 from by subst hW; exact below1 _ _)
  have hs0 : W0.heap.size = w.heap.size + 1 := by subst hW; simp
  have q1 : Is W0 w.heap.size 31 (cV t a cap) := by subst hW; exact Is.new _ _ _
  clear hW
  refine (spec_l6Copy t a cap B W0 (HR.out.below H0.out hB) hwf (by omega) hct).mono ?_
  rintro e w2 ⟨a2, cap2, rfl, hown2, hb2⟩
  have hs2 := hb2.size
  have HO2 := Lib.hid hown2; clear hown2
  have H2 := Lib.hid hb2; clear hb2 q1
  have HCT := Lib.hid hct; clear hct
  have HWF := Lib.hid hwf; clear hwf
  go_wp2_with fail
  generalize hW : w2.alloc (Obj.cells (cV t a2 cap2) 31) = W1
  have g1 : Is W1 w2.heap.size 31 (cV t a2 cap2) := by subst hW; exact Is.new _ _ _
  have H1 := Lib.hid (show Below w2.heap.size w2 W1 from by subst hW; exact below1 _ _)
  have hs1 : W1.heap.size = w2.heap.size + 1 := by subst hW; simp
  clear hW
  have HO := Lib.hid ((HO2.out.below H1.out (Nat.le_refl _)).more (Nat.le_refl _) (by omega : _ ≤ W1.heap.size)); clear HO2
  have HB1 := Lib.hid ((H0.out.trans (H2.out.mono (by omega))).trans (H1.out.mono (by omega)))
  go_loopw [7, 8, 9, 5] (fun i _ _ s wr => ∃ (j : Nat) (x : T) (ax : Option Addr) (cx : Nat) (o : ByteArray), j ≤ p.length ∧ i = .int .i64 j ∧ s = .string o ∧ Is wr w2.heap.size 31 (cV x ax cx) ∧ Own wr W0.heap.size wr.heap.size ax cx x.l ∧ Wf x ∧ T.count x ≤ 1073741824 ∧ o.size + 24 * T.szL x.l ≤ 1 + 24 * T.szL t.l ∧ Hid (pathT t ⟨#[36]⟩ p = pathT x o (p.drop j)) ∧ Below w.heap.size w wr ∧ w2.heap.size < wr.heap.size) (fun i _ _ _ _ => p.length - (intOf i).toNat)
  case atStart => exact ⟨0, t, a2, cap2, _, Nat.zero_le _, rfl, rfl, g1, HO.out, HWF.out, HCT.out, by omega, rfl, HB1.out, by omega⟩
  case round =>
    obtain ⟨j, x, ax, cx, so, hj, rfl, rfl, hbox, hown, hwx, hcx, hos, HP, hb, hws⟩ := hrel
    have hbs := hb.size
    obtain ⟨x0, x1, x2, x3, x4⟩ := hbox.cells5
    by_cases hlt : j < p.length
    · obtain ⟨b, o, ha, hbl, d0, d1, hi⟩ := (HR'.out.below EStep.loc hb hB).step j hlt
      subst ha
      have hlb : b < wr.heap.size := by omega
      have hlx : x.l.length ≤ 1073741824 := by have := T.length_le_countL x.l; cases x; simp only [T.count, T.l] at *; omega
      have HW := Lib.hid hwx; clear hwx
      have HC := Lib.hid hcx; clear hcx
      have HX := Lib.hid hown; clear hown
      have HI := Lib.hid hi; clear hi
      go_wp2_with fail
      refine wp_region_held_drew (S := fun w' => (∀ b o, b < wr.heap.size → w'.cell? ⟨b, o, none⟩ = wr.cell? ⟨b, o, none⟩) ∧ Below (wr.heap.size) wr w') (by kernel_rfl) (by first | exact ⟨fun _ _ _ => rfl, (Below.refl _ _).drew⟩ | exact keep_step (by assumption) (Below.drew (Below.refl _ _)) (Nat.le_refl _) | exact keep_step (by assumption) (by assumption) (by first | omega | (simp only [World.size_drew]; omega) | (simp only [size_alloc]; omega) | (simp only [World.size_drew, size_alloc]; omega) | (have := (‹(_ ∧ Below (wr.heap.size) wr _)›).2.size; first | omega | (simp only [World.size_drew]; omega) | (simp only [size_alloc]; omega) | (simp only [World.size_drew, size_alloc]; omega) | (simp only [World.size_drew] at this; omega) | (simp only [size_alloc] at this; omega) | (simp only [World.size_drew, size_alloc] at this; omega)))) (fun hHeld => ?_)
      refine wpAnyH_take (i := 0) (oi := ⟨some 19, _, _, _, _, _⟩) (v := ?_) rfl (by kernel_rfl) (by kernel_rfl) (by kernel_rfl) (fun _ _ _ h => h) (Or.inl ⟨by rfl, ?_⟩) (by assumption) ?_
      rotate_left 1
      · (intro w hSw; (try dsimp only at hSw); go_simp; try (with_reducible rfl))
      try simp only [Act.put, List.setIfInBounds_toArray, List.set_cons_zero, List.set_cons_succ]
      refine wpAnyH_take (i := 1) (oi := ⟨some 20, _, _, _, _, _⟩) (v := ?_) rfl (by kernel_rfl) (by kernel_rfl) (by kernel_rfl) (fun _ _ _ h => h) (Or.inl ⟨by rfl, ?_⟩) (by assumption) ?_
      rotate_left 1
      · (intro w hSw; (try dsimp only at hSw); go_simp; try (with_reducible rfl))
      try simp only [Act.put, List.setIfInBounds_toArray, List.set_cons_zero, List.set_cons_succ]
      refine wpAnyH_take (i := 2) (oi := ⟨some 21, _, _, _, _, _⟩) (v := ?_) rfl (by kernel_rfl) (by kernel_rfl) (by kernel_rfl) (fun _ _ _ h => h) (Or.inl ⟨by rfl, ?_⟩) (by assumption) ?_
      rotate_left 1
      · (intro w hSw; (try dsimp only at hSw); go_simp; try (with_reducible rfl))
      try simp only [Act.put, List.setIfInBounds_toArray, List.set_cons_zero, List.set_cons_succ]
      refine wpAnyH_take (i := 3) (oi := ⟨some 22, _, _, _, _, _⟩) (v := ?_) rfl (by kernel_rfl) (by kernel_rfl) (by kernel_rfl) (fun _ _ _ h => h) (Or.inl ⟨by rfl, ?_⟩) (by assumption) ?_
      rotate_left 1
      · (intro w hSw; (try dsimp only at hSw); go_simp; try (with_reducible rfl))
      try simp only [Act.put, List.setIfInBounds_toArray, List.set_cons_zero, List.set_cons_succ]
      refine wpAnyH_take (i := 4) (oi := ⟨some 23, _, _, _, _, _⟩) (v := ?_) rfl (by kernel_rfl) (by kernel_rfl) (by kernel_rfl) (fun _ _ _ h => h) (Or.inl ⟨by rfl, ?_⟩) (by assumption) ?_
      rotate_left 1
      · (intro w hSw; (try dsimp only at hSw); go_simp; try (with_reducible rfl))
      try simp only [Act.put, List.setIfInBounds_toArray, List.set_cons_zero, List.set_cons_succ]
      refine wpAnyH_ready (rs := [5, 9]) (by kernel_rfl) (by simp) ?_
      refine AllReadyH.cons (o := ⟨some 24, _, _, _, _, _⟩) rfl (fun K hK => ?_) ?_
      focus (go_simp; (first | (go_at_call 68; refine (spec_StepVal x p[j] ax cx _ _ (HX.out.read.below (‹_ ∧ Below (wr.heap.size) wr _›).2 (Nat.le_refl _)) HW.out HI.out HC.out (‹_ ∧ Below (wr.heap.size) wr _›).2.size).mono ?_; rintro e w3 ⟨a3, cap3, rfl, ho3, hb3⟩; first | (have p8 := (Is.drew (Is.new wr zV 31)).below hb3 (by simp); have f8 := (fun i => p8.frozen i); obtain ⟨y0, y1, y2, y3, y4⟩ := p8.cells5) | skip; have hsz3 : wr.heap.size ≤ w3.heap.size := (by have := hb3.size; simp only [World.size_drew, size_alloc] at this; omega))); go_wp2_with fail; refine hK.out _ _ (by first | exact ⟨fun _ _ _ => rfl, (Below.refl _ _).drew⟩ | exact keep_step (by assumption) (Below.drew (Below.refl _ _)) (Nat.le_refl _) | exact keep_step (by assumption) (by assumption) (by first | omega | (simp only [World.size_drew]; omega) | (simp only [size_alloc]; omega) | (simp only [World.size_drew, size_alloc]; omega) | (have := (‹(_ ∧ Below (wr.heap.size) wr _)›).2.size; first | omega | (simp only [World.size_drew]; omega) | (simp only [size_alloc]; omega) | (simp only [World.size_drew, size_alloc]; omega) | (simp only [World.size_drew] at this; omega) | (simp only [size_alloc] at this; omega) | (simp only [World.size_drew, size_alloc] at this; omega)))) (fun hHeld => ?_); clear hK K; try simp only [Act.put, List.setIfInBounds_toArray, List.set_cons_zero, List.set_cons_succ])
      refine wpAnyH_take (i := 6) (oi := ⟨some 18, _, _, _, _, _⟩) (v := ?_) rfl (by kernel_rfl) (by kernel_rfl) (by kernel_rfl) (fun _ _ _ h => h) (Or.inl ⟨by rfl, ?_⟩) (by assumption) ?_
      rotate_left 1
      · (intro w hSw; (try dsimp only at hSw); go_simp; try (with_reducible rfl))
      try simp only [Act.put, List.setIfInBounds_toArray, List.set_cons_zero, List.set_cons_succ]
      refine wpAnyH_take (i := 7) (oi := ⟨some 25, _, _, _, _, _⟩) (v := ?_) rfl (by kernel_rfl) (by kernel_rfl) (by kernel_rfl) (fun _ _ _ h => h) (Or.inl ⟨by rfl, ?_⟩) (by assumption) ?_
      rotate_left 1
      · (intro w hSw; (try dsimp only at hSw); go_simp; try (with_reducible rfl))
      try simp only [Act.put, List.setIfInBounds_toArray, List.set_cons_zero, List.set_cons_succ]
      refine wpAnyH_take (i := 8) (oi := ⟨some 26, _, _, _, _, _⟩) (v := ?_) rfl (by kernel_rfl) (by kernel_rfl) (by kernel_rfl) (fun _ _ _ h => h) (Or.inl ⟨by rfl, ?_⟩) (by assumption) ?_
      rotate_left 1
      · (intro w hSw; (try dsimp only at hSw); go_simp; try (with_reducible rfl))
      try simp only [Act.put, List.setIfInBounds_toArray, List.set_cons_zero, List.set_cons_succ]
      refine wpAnyH_ready (rs := [9]) (by kernel_rfl) (by simp) ?_
      refine AllReadyH.cons (o := ⟨some 8, _, _, _, _, _⟩) rfl (fun K hK => ?_) AllReadyH.nil
      focus (go_simp; go_wp2_with fail; refine hK.out _ _ (by first | (with_reducible exact keep_step (by assumption) (below1 _ _) (by first | omega | (simp only [World.size_drew]; omega) | (simp only [size_alloc]; omega) | (simp only [World.size_drew, size_alloc]; omega) | (have := (‹(_ ∧ Below (wr.heap.size) wr _)›).2.size; first | omega | (simp only [World.size_drew]; omega) | (simp only [size_alloc]; omega) | (simp only [World.size_drew, size_alloc]; omega) | (simp only [World.size_drew] at this; omega) | (simp only [size_alloc] at this; omega) | (simp only [World.size_drew, size_alloc] at this; omega)))) | (exact keep_step (by assumption) (below1 _ _) (by first | omega | (simp only [World.size_drew]; omega) | (simp only [size_alloc]; omega) | (simp only [World.size_drew, size_alloc]; omega) | (have := (‹(_ ∧ Below (wr.heap.size) wr _)›).2.size; first | omega | (simp only [World.size_drew]; omega) | (simp only [size_alloc]; omega) | (simp only [World.size_drew, size_alloc]; omega) | (simp only [World.size_drew] at this; omega) | (simp only [size_alloc] at this; omega) | (simp only [World.size_drew, size_alloc] at this; omega))))) (fun hHeld => ?_); clear hK K; try simp only [Act.put, List.setIfInBounds_toArray, List.set_cons_zero, List.set_cons_succ])
      refine wpAnyH_ready (rs := [10]) (by kernel_rfl) (by simp) ?_
      refine AllReadyH.cons (o := ⟨none, _, _, _, _, _⟩) rfl (fun K hK => ?_) AllReadyH.nil
      focus (go_simp; go_wp2_with fail; refine hK.out _ _ (by exact keep_step (by assumption) (below1 _ _) (by first | omega | (simp only [World.size_drew]; omega) | (simp only [size_alloc]; omega) | (simp only [World.size_drew, size_alloc]; omega) | (have := (‹(_ ∧ Below (wr.heap.size) wr _)›).2.size; first | omega | (simp only [World.size_drew]; omega) | (simp only [size_alloc]; omega) | (simp only [World.size_drew, size_alloc]; omega) | (simp only [World.size_drew] at this; omega) | (simp only [size_alloc] at this; omega) | (simp only [World.size_drew, size_alloc] at this; omega)))) (fun hHeld => ?_); clear hK K; try simp only [Act.put])
      refine wpAnyH_take (i := 11) (oi := ⟨some 9, _, _, _, _, _⟩) (v := ?_) rfl (by kernel_rfl) (by kernel_rfl) (by kernel_rfl) (fun _ _ _ h => h) (Or.inl ⟨by rfl, ?_⟩) (by assumption) ?_
      rotate_left 1
      · (intro w hSw; (try dsimp only at hSw); go_simp; try (with_reducible rfl))
      try simp only [Act.put, List.setIfInBounds_toArray, List.set_cons_zero, List.set_cons_succ]
      refine wpAnyH_done (by kernel_rfl) ?_ _
      rotate_left 1
      refine AllReadyH.cons (o := ⟨some 8, _, _, _, _, _⟩) rfl (fun K hK => ?_) AllReadyH.nil
      focus (go_simp; go_wp2_with fail; refine hK.out _ _ (by first | (with_reducible exact keep_step (by assumption) (below1 _ _) (by first | omega | (simp only [World.size_drew]; omega) | (simp only [size_alloc]; omega) | (simp only [World.size_drew, size_alloc]; omega) | (have := (‹(_ ∧ Below (wr.heap.size) wr _)›).2.size; first | omega | (simp only [World.size_drew]; omega) | (simp only [size_alloc]; omega) | (simp only [World.size_drew, size_alloc]; omega) | (simp only [World.size_drew] at this; omega) | (simp only [size_alloc] at this; omega) | (simp only [World.size_drew, size_alloc] at this; omega)))) | (exact keep_step (by assumption) (below1 _ _) (by first | omega | (simp only [World.size_drew]; omega) | (simp only [size_alloc]; omega) | (simp only [World.size_drew, size_alloc]; omega) | (have := (‹(_ ∧ Below (wr.heap.size) wr _)›).2.size; first | omega | (simp only [World.size_drew]; omega) | (simp only [size_alloc]; omega) | (simp only [World.size_drew, size_alloc]; omega) | (simp only [World.size_drew] at this; omega) | (simp only [size_alloc] at this; omega) | (simp only [World.size_drew, size_alloc] at this; omega))))) (fun hHeld => ?_); clear hK K; try simp only [Act.put, List.setIfInBounds_toArray, List.set_cons_zero, List.set_cons_succ])
      refine wpAnyH_ready (rs := [5]) (by kernel_rfl) (by simp) ?_
      refine AllReadyH.cons (o := ⟨some 24, _, _, _, _, _⟩) rfl (fun K hK => ?_) AllReadyH.nil
      focus (go_simp; (first | (go_at_call 68; refine (spec_StepVal x p[j] ax cx _ _ (HX.out.read.below (‹_ ∧ Below (wr.heap.size) wr _›).2 (Nat.le_refl _)) HW.out HI.out HC.out (‹_ ∧ Below (wr.heap.size) wr _›).2.size).mono ?_; rintro e w3 ⟨a3, cap3, rfl, ho3, hb3⟩; first | (have p8 := (Is.drew (Is.new wr zV 31)).below hb3 (by simp); have f8 := (fun i => p8.frozen i); obtain ⟨y0, y1, y2, y3, y4⟩ := p8.cells5) | skip; have hsz3 : wr.heap.size ≤ w3.heap.size := (by have := hb3.size; simp only [World.size_drew, size_alloc] at this; omega))); go_wp2_with fail; refine hK.out _ _ (by first | exact ⟨fun _ _ _ => rfl, (Below.refl _ _).drew⟩ | exact keep_step (by assumption) (Below.drew (Below.refl _ _)) (Nat.le_refl _) | exact keep_step (by assumption) (by assumption) (by first | omega | (simp only [World.size_drew]; omega) | (simp only [size_alloc]; omega) | (simp only [World.size_drew, size_alloc]; omega) | (have := (‹(_ ∧ Below (wr.heap.size) wr _)›).2.size; first | omega | (simp only [World.size_drew]; omega) | (simp only [size_alloc]; omega) | (simp only [World.size_drew, size_alloc]; omega) | (simp only [World.size_drew] at this; omega) | (simp only [size_alloc] at this; omega) | (simp only [World.size_drew, size_alloc] at this; omega)))) (fun hHeld => ?_); clear hK K; try simp only [Act.put, List.setIfInBounds_toArray, List.set_cons_zero, List.set_cons_succ])
      refine wpAnyH_take (i := 6) (oi := ⟨some 18, _, _, _, _, _⟩) (v := ?_) rfl (by kernel_rfl) (by kernel_rfl) (by kernel_rfl) (fun _ _ _ h => h) (Or.inl ⟨by rfl, ?_⟩) (by assumption) ?_
      rotate_left 1
      · (intro w hSw; (try dsimp only at hSw); go_simp; try (with_reducible rfl))
      try simp only [Act.put, List.setIfInBounds_toArray, List.set_cons_zero, List.set_cons_succ]
      refine wpAnyH_take (i := 7) (oi := ⟨some 25, _, _, _, _, _⟩) (v := ?_) rfl (by kernel_rfl) (by kernel_rfl) (by kernel_rfl) (fun _ _ _ h => h) (Or.inl ⟨by rfl, ?_⟩) (by assumption) ?_
      rotate_left 1
      · (intro w hSw; (try dsimp only at hSw); go_simp; try (with_reducible rfl))
      try simp only [Act.put, List.setIfInBounds_toArray, List.set_cons_zero, List.set_cons_succ]
      refine wpAnyH_take (i := 8) (oi := ⟨some 26, _, _, _, _, _⟩) (v := ?_) rfl (by kernel_rfl) (by kernel_rfl) (by kernel_rfl) (fun _ _ _ h => h) (Or.inl ⟨by rfl, ?_⟩) (by assumption) ?_
      rotate_left 1
      · (intro w hSw; (try dsimp only at hSw); go_simp; try (with_reducible rfl))
      try simp only [Act.put, List.setIfInBounds_toArray, List.set_cons_zero, List.set_cons_succ]
      refine wpAnyH_ready (rs := [10]) (by kernel_rfl) (by simp) ?_
      refine AllReadyH.cons (o := ⟨none, _, _, _, _, _⟩) rfl (fun K hK => ?_) AllReadyH.nil
      focus (go_simp; go_wp2_with fail; refine hK.out _ _ (by exact keep_step (by assumption) (below5 _ _ _ _ _ _ _) (by omega)) (fun hHeld => ?_); clear hK K; try simp only [Act.put])
      refine wpAnyH_take (i := 11) (oi := ⟨some 9, _, _, _, _, _⟩) (v := ?_) rfl (by kernel_rfl) (by kernel_rfl) (by kernel_rfl) (fun _ _ _ h => h) (Or.inl ⟨by rfl, ?_⟩) (by assumption) ?_
      rotate_left 1
      · (intro w hSw; (try dsimp only at hSw); go_simp; try (with_reducible rfl))
      try simp only [Act.put, List.setIfInBounds_toArray, List.set_cons_zero, List.set_cons_succ]
      refine wpAnyH_done (by kernel_rfl) ?_ _
      focus
        have hI8 := p8.set5 (.int .i64 (elT x p[j]).k) (.int .i64 (elT x p[j]).n) (.int .i64 (elT x p[j]).x) (.string (elT x p[j]).s) (.slice a3 (elT x p[j]).l.length cap3)
        obtain ⟨_, _, _, _, _, hbel, hold, hsz⟩ := out5 p8.blk (.int .i64 (elT x p[j]).k) (.int .i64 (elT x p[j]).n) (.int .i64 (elT x p[j]).x) (.string (elT x p[j]).s) (.slice a3 (elT x p[j]).l.length cap3) wr.heap.size (Nat.le_refl _)
        have hO8 := ho3.agree (fun f h1 _ => hold f (by simp only [World.size_drew, size_alloc] at h1; omega))
        have hB8 : Below wr.heap.size wr _ := (((below1 wr (.cells zV 31)).drew).trans (hb3.mono (by simp only [World.size_drew, size_alloc]; omega))).trans hbel
        have hge8 : wr.heap.size ≤ wr.heap.size := Nat.le_refl _
        rw [← hsz] at hO8
        have hO8 := hO8.more (lo' := wr.heap.size) (by simp only [World.size_drew, size_alloc]; omega) (Nat.le_refl _)
        have hlt8 := hI8.lt
        generalize (((((w3.setCell ⟨wr.heap.size, 0, none⟩ (.int .i64 (elT x p[j]).k)).setCell ⟨wr.heap.size, 1, none⟩ (.int .i64 (elT x p[j]).n)).setCell ⟨wr.heap.size, 2, none⟩ (.int .i64 (elT x p[j]).x)).setCell ⟨wr.heap.size, 3, none⟩ (.string (elT x p[j]).s)).setCell ⟨wr.heap.size, 4, none⟩ (.slice a3 (elT x p[j]).l.length cap3)) = W8 at *
        clear hbel hold hsz ho3 hb3 p8 f8 y0 y1 y2 y3 y4
      rotate_left 1
      focus
        have hI8 := Is.new w3 (cV (elT x p[j]) a3 cap3) 31
        have hO8 := (ho3.below (below1 w3 (.cells (cV (elT x p[j]) a3 cap3) 31)) (Nat.le_refl _)).more (lo' := wr.heap.size) (hi' := (w3.alloc (.cells (cV (elT x p[j]) a3 cap3) 31)).heap.size) (by simp only [World.size_drew]; omega) (by simp)
        have hB8 : Below wr.heap.size wr _ := (((Below.refl wr.heap.size wr).drew.trans hb3)).trans ((below1 w3 (.cells (cV (elT x p[j]) a3 cap3) 31)).mono hsz3)
        have hge8 : wr.heap.size ≤ w3.heap.size := hsz3
        have hlt8 := hI8.lt
        generalize w3.alloc (.cells (cV (elT x p[j]) a3 cap3) 31) = W8 at *
        clear ho3 hb3 hsz3
      rotate_left 1
      all_goals
        have hI8c := hI8.cells5
        obtain ⟨n0, n1, n2, n3, n4⟩ := hI8c
        have hbox8 := hbox.below hB8 hws
        have fb8 := fun i => hbox8.frozen i
        obtain ⟨m0, m1, m2, m3, m4⟩ := hbox8.cells5
        have hs8 := hB8.size
        have hwfe := Lib.hid (elT_wf HX.out.read p[j])
        have hcte := Lib.hid (elT_count p[j] HC.out)
        have HB8 := Lib.hid (hb.trans (hB8.mono hbs))
        have HO8 := Lib.hid hO8
        have HXR := Lib.hid (HX.out.read.below hB8 (Nat.le_refl _))
        obtain ⟨b4, o4, ha, hbl4, e0, e1, _⟩ := (HR'.out.below EStep.loc HB8.out hB).step j hlt
        injection ha with ha; injection ha with ha ha2; subst ha ha2
        have hlb8 : b < W8.heap.size := by omega
        have hlw8 : w2.heap.size < W8.heap.size := by omega
        clear hB8 hO8
        by_cases hok : okI x p[j]
        · have HST := Lib.hid (HP.out.trans (pathT_ok hlt hok))
          have hroom := step_room hok HI.out
          have HOK := Lib.hid hok
          have hd : decide (okI x p[j]) = true := decide_eq_true hok
          rw [hd]
          clear hok hd
          go_wp2_with fail
          refine wp_region_held_drew (S := fun w' => (∀ b o, b < W8.heap.size → w'.cell? ⟨b, o, none⟩ = W8.cell? ⟨b, o, none⟩) ∧ Below (W8.heap.size) W8 w') (by kernel_rfl) (by first | exact ⟨fun _ _ _ => rfl, (Below.refl _ _).drew⟩ | exact keep_step (by assumption) (Below.drew (Below.refl _ _)) (Nat.le_refl _) | exact keep_step (by assumption) (by assumption) (by first | omega | (simp only [World.size_drew]; omega) | (simp only [size_alloc]; omega) | (simp only [World.size_drew, size_alloc]; omega) | (have := (‹(_ ∧ Below (W8.heap.size) W8 _)›).2.size; first | omega | (simp only [World.size_drew]; omega) | (simp only [size_alloc]; omega) | (simp only [World.size_drew, size_alloc]; omega) | (simp only [World.size_drew] at this; omega) | (simp only [size_alloc] at this; omega) | (simp only [World.size_drew, size_alloc] at this; omega)))) (fun hHeld => ?_)
          refine wpAnyH_take (i := 0) (oi := ⟨some 30, _, _, _, _, _⟩) (v := ?_) rfl (by kernel_rfl) (by kernel_rfl) (by kernel_rfl) (fun _ _ _ h => h) (Or.inl ⟨by rfl, ?_⟩) (by assumption) ?_
          rotate_left 1
          · (intro w hSw; (try dsimp only at hSw); go_simp; try (with_reducible rfl))
          try simp only [Act.put, List.setIfInBounds_toArray, List.set_cons_zero, List.set_cons_succ]
          refine wpAnyH_take (i := 1) (oi := ⟨some 31, _, _, _, _, _⟩) (v := ?_) rfl (by kernel_rfl) (by kernel_rfl) (by kernel_rfl) (fun _ _ _ h => h) (Or.inl ⟨by rfl, ?_⟩) (by assumption) ?_
          rotate_left 1
          · (intro w hSw; (try dsimp only at hSw); go_simp; try (with_reducible rfl))
          try simp only [Act.put, List.setIfInBounds_toArray, List.set_cons_zero, List.set_cons_succ]
          refine wpAnyH_take (i := 2) (oi := ⟨some 32, _, _, _, _, _⟩) (v := ?_) rfl (by kernel_rfl) (by kernel_rfl) (by kernel_rfl) (fun _ _ _ h => h) (Or.inl ⟨by rfl, ?_⟩) (by assumption) ?_
          rotate_left 1
          · (intro w hSw; (try dsimp only at hSw); go_simp; try (with_reducible rfl))
          try simp only [Act.put, List.setIfInBounds_toArray, List.set_cons_zero, List.set_cons_succ]
          refine wpAnyH_take (i := 3) (oi := ⟨some 33, _, _, _, _, _⟩) (v := ?_) rfl (by kernel_rfl) (by kernel_rfl) (by kernel_rfl) (fun _ _ _ h => h) (Or.inl ⟨by rfl, ?_⟩) (by assumption) ?_
          rotate_left 1
          · (intro w hSw; (try dsimp only at hSw); go_simp; try (with_reducible rfl))
          try simp only [Act.put, List.setIfInBounds_toArray, List.set_cons_zero, List.set_cons_succ]
          refine wpAnyH_take (i := 4) (oi := ⟨some 34, _, _, _, _, _⟩) (v := ?_) rfl (by kernel_rfl) (by kernel_rfl) (by kernel_rfl) (fun _ _ _ h => h) (Or.inl ⟨by rfl, ?_⟩) (by assumption) ?_
          rotate_left 1
          · (intro w hSw; (try dsimp only at hSw); go_simp; try (with_reducible rfl))
          try simp only [Act.put, List.setIfInBounds_toArray, List.set_cons_zero, List.set_cons_succ]
          refine wpAnyH_take (i := 5) (oi := ⟨some 35, _, _, _, _, _⟩) (v := ?_) rfl (by kernel_rfl) (by kernel_rfl) (by kernel_rfl) (fun _ _ _ h => h) (Or.inl ⟨by rfl, ?_⟩) (by assumption) ?_
          rotate_left 1
          · (intro w hSw; (try dsimp only at hSw); go_simp; try (with_reducible rfl))
          try simp only [Act.put, List.setIfInBounds_toArray, List.set_cons_zero, List.set_cons_succ]
          refine wpAnyH_ready (rs := [6]) (by kernel_rfl) (by simp) ?_
          refine AllReadyH.cons (o := ⟨some 36, _, _, _, _, _⟩) rfl (fun K hK => ?_) AllReadyH.nil
          go_simp
          (go_at_call 69; refine (spec_l8Text x p[j] ax cx wr.heap.size _ (HXR.out.below (‹_ ∧ Below (W8.heap.size) W8 _›).2 (by omega)) HI.out HOK.out hlx (by omega) (Nat.le_trans (by omega) (‹_ ∧ Below (W8.heap.size) W8 _›).2.size)).mono ?_; rintro e w4 ⟨rfl, hb4⟩)
          go_wp2_with fail
          refine hK.out _ _ (by first | exact ⟨fun _ _ _ => rfl, (Below.refl _ _).drew⟩ | exact keep_step (by assumption) (Below.drew (Below.refl _ _)) (Nat.le_refl _) | exact keep_step (by assumption) (by assumption) (by first | omega | (simp only [World.size_drew]; omega) | (simp only [size_alloc]; omega) | (simp only [World.size_drew, size_alloc]; omega) | (have := (‹(_ ∧ Below (W8.heap.size) W8 _)›).2.size; first | omega | (simp only [World.size_drew]; omega) | (simp only [size_alloc]; omega) | (simp only [World.size_drew, size_alloc]; omega) | (simp only [World.size_drew] at this; omega) | (simp only [size_alloc] at this; omega) | (simp only [World.size_drew, size_alloc] at this; omega)))) (fun hHeld => ?_)
          clear hK K
          try simp only [Act.put, List.setIfInBounds_toArray, List.set_cons_zero, List.set_cons_succ]
          refine wpAnyH_ready (rs := [7]) (by kernel_rfl) (by simp) ?_
          refine AllReadyH.cons (o := ⟨some 37, _, _, _, _, _⟩) rfl (fun K hK => ?_) AllReadyH.nil
          focus (go_simp; go_wp2_with fail; refine hK.out _ _ (by first | assumption | first | exact ⟨fun _ _ _ => rfl, (Below.refl _ _).drew⟩ | exact keep_step (by assumption) (Below.drew (Below.refl _ _)) (Nat.le_refl _) | exact keep_step (by assumption) (by assumption) (by first | omega | (simp only [World.size_drew]; omega) | (simp only [size_alloc]; omega) | (simp only [World.size_drew, size_alloc]; omega) | (have := (‹(_ ∧ Below (W8.heap.size) W8 _)›).2.size; first | omega | (simp only [World.size_drew]; omega) | (simp only [size_alloc]; omega) | (simp only [World.size_drew, size_alloc]; omega) | (simp only [World.size_drew] at this; omega) | (simp only [size_alloc] at this; omega) | (simp only [World.size_drew, size_alloc] at this; omega)))) (fun hHeld => ?_); clear hK K; try simp only [Act.put, List.setIfInBounds_toArray, List.set_cons_zero, List.set_cons_succ])
          refine wpAnyH_take (i := 8) (oi := ⟨some 5, _, _, _, _, _⟩) (v := ?_) rfl (by kernel_rfl) (by kernel_rfl) (by kernel_rfl) (fun _ _ _ h => h) (Or.inl ⟨by rfl, ?_⟩) (by assumption) ?_
          rotate_left 1
          · (intro w hSw; (try dsimp only at hSw); go_simp; try (with_reducible rfl))
          try simp only [Act.put, List.setIfInBounds_toArray, List.set_cons_zero, List.set_cons_succ]
          refine wpAnyH_done (by kernel_rfl) ?_ _
          all_goals (have HB9 := Lib.hid (show Below W8.heap.size W8 w4 from (‹_ ∧ Below (W8.heap.size) W8 _›).2))
          have hbox9 := hbox8.below HB9.out hlw8
          have fb9 := fun i => hbox9.frozen i
          obtain ⟨v0, v1, v2, v3, v4⟩ := hbox9.cells5
          have hI9 := hI8.below HB9.out (by omega)
          obtain ⟨r0, r1, r2, r3, r4⟩ := hI9.cells5
          have hs9 := HB9.out.size
          go_wp2_with fail
          go_roundw
          case rel =>
            obtain ⟨_, _, _, _, _, hbel, hold, hsz⟩ := out5 hbox9.blk (.int .i64 (elT x p[j]).k) (.int .i64 (elT x p[j]).n) (.int .i64 (elT x p[j]).x) (.string (elT x p[j]).s) (.slice a3 (elT x p[j]).l.length cap3) w2.heap.size (Nat.le_refl _)
            refine ⟨j + 1, elT x p[j], a3, cap3, _, by omega, by go_num, rfl, hbox9.set5 _ _ _ _ _, ?_, hwfe.out, hcte.out, by rw [ByteArray.size_append]; omega, HST.out, (HB8.out.trans (HB9.out.mono (by omega))).trans (hbel.mono (by omega)), by rw [hsz]; omega⟩
            rw [hsz]
            exact (((HO8.out.below HB9.out (Nat.le_refl _)).more (Nat.le_refl _) hs9).agree (fun f h1 _ => hold f (by omega))).more (by omega) (Nat.le_refl _)
          case measure => simp [intOf]; omega
        · have HST := Lib.hid (HP.out.trans (pathT_no hlt hok))
          have hd : decide (okI x p[j]) = false := decide_eq_false hok
          rw [hd]
          clear hok hd
          go_wp2_with fail
          go_ret
          exact ⟨ret_s HST.out.symm, HB8.out⟩
    · have hjj : p.length = j := by omega
      have HJ := Lib.hid (show pathT t ⟨#[36]⟩ p = so from HP.out.trans (by rw [← hjj]; exact pathT_end x so p)); clear hjj
      go_wp2_with fail
      go_ret
      exact ⟨ret_s HJ.out.symm, hb⟩
end Go.Proofs.YtfbgmhjjdgglnaaDoor
