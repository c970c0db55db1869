/- Contracts and lemmas for the proofs of this seat: LossT3. No condition beyond those stated. -/
import Derived.Test.YtfbgmhjjdgglnaaDoorRows
import Derived.WalkKit
import Derived.ProofKit
import Derived.OpenShut
import Derived.Handy
import Derived.Lib.Hide
import Derived.Lib.SmallJoins
import Derived.Lib.Join
import Derived.Deep.RegionHeld3
import Derived.Deep.AppendLies
import Derived.Deep.RegionLaw
import Derived.Deep.QuietTactic
import Derived.BigQuiet
import Derived.Lib.AppendIntMem
import Derived.Lib.ItoaLen
import Derived.Test.YtfbgmhjjdgglnaaDoorBase
import Derived.Test.YtfbgmhjjdgglnaaDoorGen
import Derived.Test.YtfbgmhjjdgglnaaDoorKit
import Derived.Test.YtfbgmhjjdgglnaaDoorMark
import Derived.Test.YtfbgmhjjdgglnaaDoorApp
import Derived.Test.YtfbgmhjjdgglnaaDoorMarkV
import Derived.Test.YtfbgmhjjdgglnaaDoorLawVal
import Derived.Test.YtfbgmhjjdgglnaaDoorCopy
import Derived.Test.YtfbgmhjjdgglnaaDoorPathAt
import Derived.Test.YtfbgmhjjdgglnaaDoorPathAt2
import Derived.Test.YtfbgmhjjdgglnaaDoorSame2
import Derived.Test.YtfbgmhjjdgglnaaDoorOnce
import Derived.Test.YtfbgmhjjdgglnaaDoorShelf
import Derived.Test.YtfbgmhjjdgglnaaDoorNum
import Derived.Test.YtfbgmhjjdgglnaaDoorPText
import Derived.Test.YtfbgmhjjdgglnaaDoorPText2
import Derived.Test.YtfbgmhjjdgglnaaDoorNames
import Derived.Test.YtfbgmhjjdgglnaaDoorLossT
import Derived.Test.YtfbgmhjjdgglnaaDoorLossT2
import Derived.Test.YtfbgmhjjdgglnaaDoorKeepX
namespace Go.Proofs.YtfbgmhjjdgglnaaDoor
open Go.ChangeShapes Go.WideShapes Go.ChangeAt Go.RowKit Go.Joins
set_option linter.unusedVariables false
set_option maxRecDepth 100000
def EStr (w : World) (b o : Nat) (x : ByteArray) (F : List Nat) : Prop := F = [] ∧ w.cell? ⟨b, o, none⟩ = some (.string x)
theorem EStr.elem : Elem EStr 1 := by
  refine ⟨by omega, ?_, ?_⟩
  · intro x w w' b o b' o' F h hc _
    exact ⟨h.1, by have := hc 0 (by omega); rw [Nat.add_zero, Nat.add_zero] at this; rw [this]; exact h.2⟩
  · intro x w b o F h i hi
    obtain rfl : i = 0 := by omega
    exact ⟨_, h.2, rfl⟩
theorem info_Str : (Tryd.prog.info? 9).map (fun i => (i.zero, i.size, i.bytes)) = some (some (.string ⟨#[]⟩), 1, 16) := by kernel_rfl
theorem Rd.lossSteps {w : World} {B : Nat} {a : Option Addr} {cap : Nat} {l : List Lo} (h : Rd ELoss 2 w B a cap l) : ∀ x ∈ l, ∀ s ∈ x.2, I64 s.1 := by
  intro x hx
  obtain ⟨i, hi, rfl⟩ := List.mem_iff_getElem.1 hx
  obtain ⟨_, _, _, _, _, _, _, _, _, hq⟩ := h.loss i hi
  exact hq.i64
theorem words_len (v : T) (l : List Lo) (hl : ∀ x ∈ l, ∀ s ∈ x.2, I64 s.1) (hz : T.szL v.l ≤ 1048576) (hn : l.length ≤ 1048576) :
    (Lib.join ((l.map (wordT v)).map (·.data.toList)) (⟨#[59, 32]⟩ : ByteArray).data.toList).length ≤ 140737488355328 := by
  have h := joinT_size (l.map (wordT v)) 25165831 (fun x hx => by
    obtain ⟨y, hy, rfl⟩ := List.mem_map.1 hx
    exact wordT_size v y (hl y hy) hz)
  have e : (joinT (l.map (wordT v))).size = (Lib.join ((l.map (wordT v)).map (·.data.toList)) (⟨#[59, 32]⟩ : ByteArray).data.toList).length := by rw [Lib.size_eq]; rfl
  rw [List.length_map] at h
  omega
theorem words_snoc (v : T) (l : List Lo) (j : Nat) (h : j < l.length) : (l.take (j + 1)).map (wordT v) = (l.take j).map (wordT v) ++ [(lossNm l[j].1 ++ ⟨#[32]⟩) ++ pathT v ⟨#[36]⟩ l[j].2] := by
  rw [take_snoc l j h, List.map_append]; rfl
set_option maxHeartbeats 16000000 in
theorem impl_LossText (v : T) (l : List Lo) (a a' : Option Addr) (cap cap' B : Nat) (w : World) (hr : R w B a cap v.l) (hr' : Rd ELoss 2 w B a' cap' l) (hsz : T.sz v ≤ 1048576) (hll : l.length ≤ 1048576) (htab : Lib.TabBelow Tryd.prog B w "internal/strconv.uint64pow10" .u64 Lib.pow10Tab) (hB : B ≤ w.heap.size) :
    Calls Tryd.prog 13 #[.agg (cV v a cap), .slice a' l.length cap'] w fun e w' => e = .returned (.string (lossT v l)) ∧ Below w.heap.size w w' := by
  obtain ⟨hl1, hl2⟩ := hr.len
  obtain ⟨hm1, hm2⟩ := hr'.len
  have hct := T.countL_le_szL v
  have hszL := s_le_sz v
  have HS := Lib.hid hr'.lossSteps
  have HR := Lib.hid hr; clear hr
  have HR' := Lib.hid hr'; clear hr'
  have HT := Lib.hid htab; clear htab
  go_enter Tryd.func13, Tryd.ntmps13
  go_wp2_with fail
  obtain ⟨rlo, hrlo⟩ : ∃ r, r = w.heap.size + 1 := ⟨_, rfl⟩
  have h0 := AppL.empty (E := EStr) (n := 1) (e := 9) (w.alloc (Obj.cells (cV v a cap) 31)) rlo (by rw [hrlo]; simp)
  simp only [size_alloc] at h0
  have lr : w.heap.size < rlo := by omega
  generalize hW : (w.alloc (Obj.cells (cV v a cap) 31)).alloc (Obj.cells #[] 9) = W0 at *
  have q1 : Is W0 w.heap.size 31 (cV v a cap) := by subst hW; exact (Is.new _ _ _).alloc _
  have H0 := Lib.hid (show Below w.heap.size w W0 from by subst hW; exact below2 _ _ _)
  have hs0 : W0.heap.size = w.heap.size + 2 := by subst hW; simp
  clear hW
  have HRLO := Lib.hid hrlo
  have hrl2 : rlo ≤ w.heap.size + 1 := by omega
  have hrl3 : rlo ≤ W0.heap.size := by omega
  clear hrlo
  go_loopw [5, 11, 7] (fun s i _ wr => ∃ (j : Nat) (ar : Option Addr) (cr : Nat), j ≤ l.length ∧ i = .int .i64 j ∧ s = .slice ar ((l.take j).map (wordT v)).length cr ∧ AppL EStr 1 9 wr rlo ar cr ((l.take j).map (wordT v)) [] ∧ Below rlo W0 wr) (fun _ i _ _ => l.length - (intOf i).toNat)
  case atStart => exact ⟨0, _, _, Nat.zero_le _, rfl, rfl, h0, Below.refl _ _⟩
  case round =>
    obtain ⟨j, ar, cr, hj, rfl, rfl, happ, hb⟩ := hrel
    have hbs := hb.size
    have hbox := q1.below hb (by omega)
    have HBw := Lib.hid (H0.out.trans (hb.mono (by omega)))
    have hwl : ((l.take j).map (wordT v)).length = j := by rw [List.length_map, List.length_take]; omega
    have HA := Lib.hid happ; clear happ
    by_cases hlt : j < l.length
    · obtain ⟨b, o2, a2, cap2, ha, hbl, d0, d1, hi, hq⟩ := (HR'.out.below ELoss.loc HBw.out hB).loss j hlt
      subst ha
      have hlb : b < wr.heap.size := by omega
      have z1 := lossNm_size l[j].1
      have z2 := pathT_size l[j].2 hq.i64 v ⟨#[36]⟩
      have z3 : (⟨#[36]⟩ : ByteArray).size = 1 := rfl
      have z4 : (⟨#[32]⟩ : ByteArray).size = 1 := rfl
      have HW := Lib.hid (words_snoc v l j hlt)
      have HQ := Lib.hid hq; clear hq
      have HX := Lib.hid (HR.out.below HBw.out hB)
      generalize (l.take j).map (wordT v) = ws at *
      go_wp2_with fail
      have H5 := Lib.hid (below1 wr (.cells (cL l[j] a2 cap2) 55))
      have hbox5 := hbox.alloc (.cells (cL l[j] a2 cap2) 55)
      have hx5 := Is.new wr (cL l[j] a2 cap2) 55
      have hs5 : (wr.alloc (.cells (cL l[j] a2 cap2) 55)).heap.size = wr.heap.size + 1 := by simp
      generalize wr.alloc (.cells (cL l[j] a2 cap2) 55) = W5 at *
      obtain ⟨x0, x1, x2, x3, x4⟩ := hbox5.cells5
      obtain ⟨y0, y1⟩ := hx5.cells2
      have lbox : w.heap.size < W5.heap.size := by omega
      have lx : wr.heap.size < W5.heap.size := by omega
      have HA5 := Lib.hid (HA.out.agree EStr.elem (fun f hf => H5.out.block f hf) (by omega))
      have HB5 := Lib.hid (HBw.out.trans (H5.out.mono (by omega)))
      have HX5 := Lib.hid (HX.out.below H5.out (by omega))
      have HQ5 := Lib.hid (HQ.out.below EStep.loc H5.out (by omega))
      have hsB : B ≤ W5.heap.size := by omega
      have hsR : rlo ≤ W5.heap.size := by omega
      have hsX : rlo ≤ wr.heap.size := by omega
      have hBr : B ≤ rlo := by omega
      have HK := Lib.hid (fun k hk => (HA.out.row k hk).2)
      clear d0 d1 hs5 hbs
      refine wp_region_held_drew (S := fun w' => (∀ b o, (b < rlo ∨ b = wr.heap.size) → w'.cell? ⟨b, o, none⟩ = W5.cell? ⟨b, o, none⟩) ∧ Below (rlo) W5 w') (by kernel_rfl) (by first | exact ⟨fun _ _ _ => rfl, (Below.refl _ _).drew⟩ | exact keep_stepX (by assumption) (by assumption) (by first | omega | (simp only [World.size_drew]; omega) | (simp only [size_alloc]; omega) | (simp only [World.size_drew, size_alloc]; omega) | (have := (‹(_ ∧ Below (rlo) W5 _)›).2.size; first | omega | (simp only [World.size_drew]; omega) | (simp only [size_alloc]; omega) | (simp only [World.size_drew, size_alloc]; omega) | (simp only [World.size_drew] at this; omega) | (simp only [size_alloc] at this; omega) | (simp only [World.size_drew, size_alloc] at this; omega))) (by first | omega | (simp only [World.size_drew]; omega) | (simp only [size_alloc]; omega) | (simp only [World.size_drew, size_alloc]; omega) | (have := (‹(_ ∧ Below (rlo) W5 _)›).2.size; first | omega | (simp only [World.size_drew]; omega) | (simp only [size_alloc]; omega) | (simp only [World.size_drew, size_alloc]; omega) | (simp only [World.size_drew] at this; omega) | (simp only [size_alloc] at this; omega) | (simp only [World.size_drew, size_alloc] at this; omega)))) (fun hHeld => ?_)
      refine wpAnyH_take (i := 0) (oi := ⟨some 15, _, _, _, _, _⟩) (v := ?_) rfl (by kernel_rfl) (by kernel_rfl) (by kernel_rfl) (fun _ _ _ h => h) (Or.inl ⟨by rfl, ?_⟩) (by assumption) ?_
      rotate_left 1
      · (intro w hSw; (try dsimp only at hSw); go_simp; try (with_reducible rfl))
      try simp only [Act.put, List.setIfInBounds_toArray, List.set_cons_zero, List.set_cons_succ]
      refine wpAnyH_take (i := 1) (oi := ⟨some 16, _, _, _, _, _⟩) (v := ?_) rfl (by kernel_rfl) (by kernel_rfl) (by kernel_rfl) (fun _ _ _ h => h) (Or.inl ⟨by rfl, ?_⟩) (by assumption) ?_
      rotate_left 1
      · (intro w hSw; (try dsimp only at hSw); go_simp; try (with_reducible rfl))
      try simp only [Act.put, List.setIfInBounds_toArray, List.set_cons_zero, List.set_cons_succ]
      refine wpAnyH_take (i := 2) (oi := ⟨some 17, _, _, _, _, _⟩) (v := ?_) rfl (by kernel_rfl) (by kernel_rfl) (by kernel_rfl) (fun _ _ _ h => h) (Or.inl ⟨by rfl, ?_⟩) (by assumption) ?_
      rotate_left 1
      · (intro w hSw; (try dsimp only at hSw); go_simp; try (with_reducible rfl))
      try simp only [Act.put, List.setIfInBounds_toArray, List.set_cons_zero, List.set_cons_succ]
      refine wpAnyH_take (i := 5) (oi := ⟨some 20, _, _, _, _, _⟩) (v := ?_) rfl (by kernel_rfl) (by kernel_rfl) (by kernel_rfl) (fun _ _ _ h => h) (Or.inl ⟨by rfl, ?_⟩) (by assumption) ?_
      rotate_left 1
      · (intro w hSw; (try dsimp only at hSw); go_simp; try (with_reducible rfl))
      try simp only [Act.put, List.setIfInBounds_toArray, List.set_cons_zero, List.set_cons_succ]
      refine wpAnyH_take (i := 6) (oi := ⟨some 21, _, _, _, _, _⟩) (v := ?_) rfl (by kernel_rfl) (by kernel_rfl) (by kernel_rfl) (fun _ _ _ h => h) (Or.inl ⟨by rfl, ?_⟩) (by assumption) ?_
      rotate_left 1
      · (intro w hSw; (try dsimp only at hSw); go_simp; try (with_reducible rfl))
      try simp only [Act.put, List.setIfInBounds_toArray, List.set_cons_zero, List.set_cons_succ]
      refine wpAnyH_take (i := 7) (oi := ⟨some 22, _, _, _, _, _⟩) (v := ?_) rfl (by kernel_rfl) (by kernel_rfl) (by kernel_rfl) (fun _ _ _ h => h) (Or.inl ⟨by rfl, ?_⟩) (by assumption) ?_
      rotate_left 1
      · (intro w hSw; (try dsimp only at hSw); go_simp; try (with_reducible rfl))
      try simp only [Act.put, List.setIfInBounds_toArray, List.set_cons_zero, List.set_cons_succ]
      refine wpAnyH_ready (rs := [3]) (by kernel_rfl) (by simp) ?_
      refine AllReadyH.cons (o := ⟨some 18, _, _, _, _, _⟩) rfl (fun K hK => ?_) AllReadyH.nil
      go_simp
      (first | (go_at_call 32; refine (impl_LossName l[j].1 _ hi).mono ?_; rintro e w3 ⟨rfl, hb3⟩; have HB3 := Lib.hid (show Below W5.heap.size W5 w3 from (Below.refl _ _).drew.trans hb3)) | (go_at_call 33; refine (impl_PathText v l[j].2 a a2 cap cap2 B _ (HX5.out.below (‹_ ∧ Below (rlo) W5 _›).2 (by omega)) (HQ5.out.below EStep.loc (‹_ ∧ Below (rlo) W5 _›).2 (by omega)) (by omega) (by omega) (fun W hW => HT.out W ((HB5.out.mono hB).trans (((‹_ ∧ Below (rlo) W5 _›).2.mono (by omega)).trans hW))) (Nat.le_trans (by omega) (‹_ ∧ Below (rlo) W5 _›).2.size)).mono ?_; rintro e w4 ⟨rfl, hb4⟩; have HB4 := Lib.hid (HB3.out.trans (hb4.mono HB3.out.size))) | (refine step_appLX EStr.elem rfl _ _ 59 rfl (.string ⟨#[]⟩) 16 Tryd.underlying59 info_Str rfl rlo ar cr ws [] (by rw [hwl]; rfl) ((HA5.out.agree EStr.elem (fun f hf => HB4.out.block f hf) (by omega)).agree EStr.elem (fun f hf => (below1 w4 _).block f hf) (by have := HB4.out.size; omega)) (by have := HB4.out.size; simp only [size_alloc]; omega) w4.heap.size 0 1 1 [(lossNm l[j].1 ++ ⟨#[32]⟩) ++ pathT v ⟨#[36]⟩ l[j].2] [] rfl rfl ⟨[], [], rfl, ⟨rfl, (Is.new w4 #[.string ((lossNm l[j].1 ++ ⟨#[32]⟩) ++ pathT v ⟨#[36]⟩ l[j].2)] 9).cell 0 rfl⟩, rfl⟩ (by simp) (by omega) (by rw [hwl]; unfold maxLen; omega) (by rw [hwl]; omega) ?_; intro ar2 cr2 w6 happ6 hb6 hout6; have hx6 := hout6 wr.heap.size (by have := HB4.out.size; simp only [size_alloc]; omega) (fun k hk e => by have := HK.out k hk; omega)))
      go_wp2_with fail
      refine hK.out _ _ (by first | exact ⟨fun _ _ _ => rfl, (Below.refl _ _).drew⟩ | exact keep_stepX (by assumption) (by assumption) (by first | omega | (simp only [World.size_drew]; omega) | (simp only [size_alloc]; omega) | (simp only [World.size_drew, size_alloc]; omega) | (have := (‹(_ ∧ Below (rlo) W5 _)›).2.size; first | omega | (simp only [World.size_drew]; omega) | (simp only [size_alloc]; omega) | (simp only [World.size_drew, size_alloc]; omega) | (simp only [World.size_drew] at this; omega) | (simp only [size_alloc] at this; omega) | (simp only [World.size_drew, size_alloc] at this; omega))) (by first | omega | (simp only [World.size_drew]; omega) | (simp only [size_alloc]; omega) | (simp only [World.size_drew, size_alloc]; omega) | (have := (‹(_ ∧ Below (rlo) W5 _)›).2.size; first | omega | (simp only [World.size_drew]; omega) | (simp only [size_alloc]; omega) | (simp only [World.size_drew, size_alloc]; omega) | (simp only [World.size_drew] at this; omega) | (simp only [size_alloc] at this; omega) | (simp only [World.size_drew, size_alloc] at this; omega)))) (fun hHeld => ?_)
      clear hK K
      try simp only [Act.put, List.setIfInBounds_toArray, List.set_cons_zero, List.set_cons_succ]
      refine wpAnyH_ready (rs := [4, 8]) (by kernel_rfl) (by simp) ?_
      refine AllReadyH.cons (o := ⟨some 19, _, _, _, _, _⟩) rfl (fun K hK => ?_) ?_
      focus (go_simp; go_wp2_with fail; refine hK.out _ _ (by first | assumption | first | exact ⟨fun _ _ _ => rfl, (Below.refl _ _).drew⟩ | exact keep_stepX (by assumption) (by assumption) (by first | omega | (simp only [World.size_drew]; omega) | (simp only [size_alloc]; omega) | (simp only [World.size_drew, size_alloc]; omega) | (have := (‹(_ ∧ Below (rlo) W5 _)›).2.size; first | omega | (simp only [World.size_drew]; omega) | (simp only [size_alloc]; omega) | (simp only [World.size_drew, size_alloc]; omega) | (simp only [World.size_drew] at this; omega) | (simp only [size_alloc] at this; omega) | (simp only [World.size_drew, size_alloc] at this; omega))) (by first | omega | (simp only [World.size_drew]; omega) | (simp only [size_alloc]; omega) | (simp only [World.size_drew, size_alloc]; omega) | (have := (‹(_ ∧ Below (rlo) W5 _)›).2.size; first | omega | (simp only [World.size_drew]; omega) | (simp only [size_alloc]; omega) | (simp only [World.size_drew, size_alloc]; omega) | (simp only [World.size_drew] at this; omega) | (simp only [size_alloc] at this; omega) | (simp only [World.size_drew, size_alloc] at this; omega)))) (fun hHeld => ?_); clear hK K; try simp only [Act.put, List.setIfInBounds_toArray, List.set_cons_zero, List.set_cons_succ])
      refine wpAnyH_ready (rs := [8]) (by kernel_rfl) (by simp) ?_
      refine AllReadyH.cons (o := ⟨some 23, _, _, _, _, _⟩) rfl (fun K hK => ?_) AllReadyH.nil
      focus (go_simp; (first | (go_at_call 32; refine (impl_LossName l[j].1 _ hi).mono ?_; rintro e w3 ⟨rfl, hb3⟩; have HB3 := Lib.hid (show Below W5.heap.size W5 w3 from (Below.refl _ _).drew.trans hb3)) | (go_at_call 33; refine (impl_PathText v l[j].2 a a2 cap cap2 B _ (HX5.out.below (‹_ ∧ Below (rlo) W5 _›).2 (by omega)) (HQ5.out.below EStep.loc (‹_ ∧ Below (rlo) W5 _›).2 (by omega)) (by omega) (by omega) (fun W hW => HT.out W ((HB5.out.mono hB).trans (((‹_ ∧ Below (rlo) W5 _›).2.mono (by omega)).trans hW))) (Nat.le_trans (by omega) (‹_ ∧ Below (rlo) W5 _›).2.size)).mono ?_; rintro e w4 ⟨rfl, hb4⟩; have HB4 := Lib.hid (HB3.out.trans (hb4.mono HB3.out.size))) | (refine step_appLX EStr.elem rfl _ _ 59 rfl (.string ⟨#[]⟩) 16 Tryd.underlying59 info_Str rfl rlo ar cr ws [] (by rw [hwl]; rfl) ((HA5.out.agree EStr.elem (fun f hf => HB4.out.block f hf) (by omega)).agree EStr.elem (fun f hf => (below1 w4 _).block f hf) (by have := HB4.out.size; omega)) (by have := HB4.out.size; simp only [size_alloc]; omega) w4.heap.size 0 1 1 [(lossNm l[j].1 ++ ⟨#[32]⟩) ++ pathT v ⟨#[36]⟩ l[j].2] [] rfl rfl ⟨[], [], rfl, ⟨rfl, (Is.new w4 #[.string ((lossNm l[j].1 ++ ⟨#[32]⟩) ++ pathT v ⟨#[36]⟩ l[j].2)] 9).cell 0 rfl⟩, rfl⟩ (by simp) (by omega) (by rw [hwl]; unfold maxLen; omega) (by rw [hwl]; omega) ?_; intro ar2 cr2 w6 happ6 hb6 hout6; have hx6 := hout6 wr.heap.size (by have := HB4.out.size; simp only [size_alloc]; omega) (fun k hk e => by have := HK.out k hk; omega))); go_wp2_with fail; refine hK.out _ _ (by first | exact ⟨fun _ _ _ => rfl, (Below.refl _ _).drew⟩ | exact keep_stepX (by assumption) (by assumption) (by first | omega | (simp only [World.size_drew]; omega) | (simp only [size_alloc]; omega) | (simp only [World.size_drew, size_alloc]; omega) | (have := (‹(_ ∧ Below (rlo) W5 _)›).2.size; first | omega | (simp only [World.size_drew]; omega) | (simp only [size_alloc]; omega) | (simp only [World.size_drew, size_alloc]; omega) | (simp only [World.size_drew] at this; omega) | (simp only [size_alloc] at this; omega) | (simp only [World.size_drew, size_alloc] at this; omega))) (by first | omega | (simp only [World.size_drew]; omega) | (simp only [size_alloc]; omega) | (simp only [World.size_drew, size_alloc]; omega) | (have := (‹(_ ∧ Below (rlo) W5 _)›).2.size; first | omega | (simp only [World.size_drew]; omega) | (simp only [size_alloc]; omega) | (simp only [World.size_drew, size_alloc]; omega) | (simp only [World.size_drew] at this; omega) | (simp only [size_alloc] at this; omega) | (simp only [World.size_drew, size_alloc] at this; omega)))) (fun hHeld => ?_); clear hK K; try simp only [Act.put, List.setIfInBounds_toArray, List.set_cons_zero, List.set_cons_succ])
      refine wpAnyH_ready (rs := [9]) (by kernel_rfl) (by simp) ?_
      refine AllReadyH.cons (o := ⟨some 24, _, _, _, _, _⟩) rfl (fun K hK => ?_) AllReadyH.nil
      focus (go_simp; go_wp2_with fail; refine hK.out _ _ (by first | assumption | first | exact ⟨fun _ _ _ => rfl, (Below.refl _ _).drew⟩ | exact keep_stepX (by assumption) (by assumption) (by first | omega | (simp only [World.size_drew]; omega) | (simp only [size_alloc]; omega) | (simp only [World.size_drew, size_alloc]; omega) | (have := (‹(_ ∧ Below (rlo) W5 _)›).2.size; first | omega | (simp only [World.size_drew]; omega) | (simp only [size_alloc]; omega) | (simp only [World.size_drew, size_alloc]; omega) | (simp only [World.size_drew] at this; omega) | (simp only [size_alloc] at this; omega) | (simp only [World.size_drew, size_alloc] at this; omega))) (by first | omega | (simp only [World.size_drew]; omega) | (simp only [size_alloc]; omega) | (simp only [World.size_drew, size_alloc]; omega) | (have := (‹(_ ∧ Below (rlo) W5 _)›).2.size; first | omega | (simp only [World.size_drew]; omega) | (simp only [size_alloc]; omega) | (simp only [World.size_drew, size_alloc]; omega) | (simp only [World.size_drew] at this; omega) | (simp only [size_alloc] at this; omega) | (simp only [World.size_drew, size_alloc] at this; omega)))) (fun hHeld => ?_); clear hK K; try simp only [Act.put, List.setIfInBounds_toArray, List.set_cons_zero, List.set_cons_succ])
      refine wpAnyH_ready (rs := [10]) (by kernel_rfl) (by simp) ?_
      refine AllReadyH.cons (o := ⟨some 25, _, _, _, _, _⟩) rfl (fun K hK => ?_) AllReadyH.nil
      focus (go_simp; go_wp2_with fail; refine hK.out _ _ (by exact keep_stepX (by assumption) (below1 _ _) (by first | omega | (simp only [World.size_drew]; omega) | (simp only [size_alloc]; omega) | (simp only [World.size_drew, size_alloc]; omega) | (have := (‹(_ ∧ Below (rlo) W5 _)›).2.size; first | omega | (simp only [World.size_drew]; omega) | (simp only [size_alloc]; omega) | (simp only [World.size_drew, size_alloc]; omega) | (simp only [World.size_drew] at this; omega) | (simp only [size_alloc] at this; omega) | (simp only [World.size_drew, size_alloc] at this; omega))) (by first | omega | (simp only [World.size_drew]; omega) | (simp only [size_alloc]; omega) | (simp only [World.size_drew, size_alloc]; omega) | (have := (‹(_ ∧ Below (rlo) W5 _)›).2.size; first | omega | (simp only [World.size_drew]; omega) | (simp only [size_alloc]; omega) | (simp only [World.size_drew, size_alloc]; omega) | (simp only [World.size_drew] at this; omega) | (simp only [size_alloc] at this; omega) | (simp only [World.size_drew, size_alloc] at this; omega)))) (fun hHeld => ?_); clear hK K; try simp only [Act.put, List.setIfInBounds_toArray, List.set_cons_zero, List.set_cons_succ])
      refine wpAnyH_ready (rs := [11]) (by kernel_rfl) (by simp) ?_
      refine AllReadyH.cons (o := ⟨some 26, _, _, _, _, _⟩) rfl (fun K hK => ?_) AllReadyH.nil
      focus ((first | (go_at_call 32; refine (impl_LossName l[j].1 _ hi).mono ?_; rintro e w3 ⟨rfl, hb3⟩; have HB3 := Lib.hid (show Below W5.heap.size W5 w3 from (Below.refl _ _).drew.trans hb3)) | (go_at_call 33; refine (impl_PathText v l[j].2 a a2 cap cap2 B _ (HX5.out.below (‹_ ∧ Below (rlo) W5 _›).2 (by omega)) (HQ5.out.below EStep.loc (‹_ ∧ Below (rlo) W5 _›).2 (by omega)) (by omega) (by omega) (fun W hW => HT.out W ((HB5.out.mono hB).trans (((‹_ ∧ Below (rlo) W5 _›).2.mono (by omega)).trans hW))) (Nat.le_trans (by omega) (‹_ ∧ Below (rlo) W5 _›).2.size)).mono ?_; rintro e w4 ⟨rfl, hb4⟩; have HB4 := Lib.hid (HB3.out.trans (hb4.mono HB3.out.size))) | (refine step_appLX EStr.elem rfl _ _ 59 rfl (.string ⟨#[]⟩) 16 Tryd.underlying59 info_Str rfl rlo ar cr ws [] (by rw [hwl]; rfl) ((HA5.out.agree EStr.elem (fun f hf => HB4.out.block f hf) (by omega)).agree EStr.elem (fun f hf => (below1 w4 _).block f hf) (by have := HB4.out.size; omega)) (by have := HB4.out.size; simp only [size_alloc]; omega) w4.heap.size 0 1 1 [(lossNm l[j].1 ++ ⟨#[32]⟩) ++ pathT v ⟨#[36]⟩ l[j].2] [] rfl rfl ⟨[], [], rfl, ⟨rfl, (Is.new w4 #[.string ((lossNm l[j].1 ++ ⟨#[32]⟩) ++ pathT v ⟨#[36]⟩ l[j].2)] 9).cell 0 rfl⟩, rfl⟩ (by simp) (by omega) (by rw [hwl]; unfold maxLen; omega) (by rw [hwl]; omega) ?_; intro ar2 cr2 w6 happ6 hb6 hout6; have hx6 := hout6 wr.heap.size (by have := HB4.out.size; simp only [size_alloc]; omega) (fun k hk e => by have := HK.out k hk; omega))); refine hK.out _ _ (by exact keep_stepY (by assumption) (by assumption) (by assumption)) (fun hHeld => ?_); clear hK K; try simp only [Act.put, List.setIfInBounds_toArray, List.set_cons_zero, List.set_cons_succ])
      refine wpAnyH_take (i := 12) (oi := ⟨some 5, _, _, _, _, _⟩) (v := ?_) rfl (by kernel_rfl) (by kernel_rfl) (by kernel_rfl) (fun _ _ _ h => h) (Or.inl ⟨by rfl, ?_⟩) (by assumption) ?_
      rotate_left 1
      · (intro w hSw; (try dsimp only at hSw); go_simp; try (with_reducible rfl))
      try simp only [Act.put, List.setIfInBounds_toArray, List.set_cons_zero, List.set_cons_succ]
      refine wpAnyH_done (by kernel_rfl) ?_ _
      rotate_left 1
      refine AllReadyH.cons (o := ⟨some 23, _, _, _, _, _⟩) rfl (fun K hK => ?_) AllReadyH.nil
      focus (go_simp; (first | (go_at_call 32; refine (impl_LossName l[j].1 _ hi).mono ?_; rintro e w3 ⟨rfl, hb3⟩; have HB3 := Lib.hid (show Below W5.heap.size W5 w3 from (Below.refl _ _).drew.trans hb3)) | (go_at_call 33; refine (impl_PathText v l[j].2 a a2 cap cap2 B _ (HX5.out.below (‹_ ∧ Below (rlo) W5 _›).2 (by omega)) (HQ5.out.below EStep.loc (‹_ ∧ Below (rlo) W5 _›).2 (by omega)) (by omega) (by omega) (fun W hW => HT.out W ((HB5.out.mono hB).trans (((‹_ ∧ Below (rlo) W5 _›).2.mono (by omega)).trans hW))) (Nat.le_trans (by omega) (‹_ ∧ Below (rlo) W5 _›).2.size)).mono ?_; rintro e w4 ⟨rfl, hb4⟩; have HB4 := Lib.hid (HB3.out.trans (hb4.mono HB3.out.size))) | (refine step_appLX EStr.elem rfl _ _ 59 rfl (.string ⟨#[]⟩) 16 Tryd.underlying59 info_Str rfl rlo ar cr ws [] (by rw [hwl]; rfl) ((HA5.out.agree EStr.elem (fun f hf => HB4.out.block f hf) (by omega)).agree EStr.elem (fun f hf => (below1 w4 _).block f hf) (by have := HB4.out.size; omega)) (by have := HB4.out.size; simp only [size_alloc]; omega) w4.heap.size 0 1 1 [(lossNm l[j].1 ++ ⟨#[32]⟩) ++ pathT v ⟨#[36]⟩ l[j].2] [] rfl rfl ⟨[], [], rfl, ⟨rfl, (Is.new w4 #[.string ((lossNm l[j].1 ++ ⟨#[32]⟩) ++ pathT v ⟨#[36]⟩ l[j].2)] 9).cell 0 rfl⟩, rfl⟩ (by simp) (by omega) (by rw [hwl]; unfold maxLen; omega) (by rw [hwl]; omega) ?_; intro ar2 cr2 w6 happ6 hb6 hout6; have hx6 := hout6 wr.heap.size (by have := HB4.out.size; simp only [size_alloc]; omega) (fun k hk e => by have := HK.out k hk; omega))); go_wp2_with fail; refine hK.out _ _ (by first | exact ⟨fun _ _ _ => rfl, (Below.refl _ _).drew⟩ | exact keep_stepX (by assumption) (by assumption) (by first | omega | (simp only [World.size_drew]; omega) | (simp only [size_alloc]; omega) | (simp only [World.size_drew, size_alloc]; omega) | (have := (‹(_ ∧ Below (rlo) W5 _)›).2.size; first | omega | (simp only [World.size_drew]; omega) | (simp only [size_alloc]; omega) | (simp only [World.size_drew, size_alloc]; omega) | (simp only [World.size_drew] at this; omega) | (simp only [size_alloc] at this; omega) | (simp only [World.size_drew, size_alloc] at this; omega))) (by first | omega | (simp only [World.size_drew]; omega) | (simp only [size_alloc]; omega) | (simp only [World.size_drew, size_alloc]; omega) | (have := (‹(_ ∧ Below (rlo) W5 _)›).2.size; first | omega | (simp only [World.size_drew]; omega) | (simp only [size_alloc]; omega) | (simp only [World.size_drew, size_alloc]; omega) | (simp only [World.size_drew] at this; omega) | (simp only [size_alloc] at this; omega) | (simp only [World.size_drew, size_alloc] at this; omega)))) (fun hHeld => ?_); clear hK K; try simp only [Act.put, List.setIfInBounds_toArray, List.set_cons_zero, List.set_cons_succ])
      refine wpAnyH_ready (rs := [4]) (by kernel_rfl) (by simp) ?_
      refine AllReadyH.cons (o := ⟨some 19, _, _, _, _, _⟩) rfl (fun K hK => ?_) AllReadyH.nil
      focus (go_simp; go_wp2_with fail; refine hK.out _ _ (by first | assumption | first | exact ⟨fun _ _ _ => rfl, (Below.refl _ _).drew⟩ | exact keep_stepX (by assumption) (by assumption) (by first | omega | (simp only [World.size_drew]; omega) | (simp only [size_alloc]; omega) | (simp only [World.size_drew, size_alloc]; omega) | (have := (‹(_ ∧ Below (rlo) W5 _)›).2.size; first | omega | (simp only [World.size_drew]; omega) | (simp only [size_alloc]; omega) | (simp only [World.size_drew, size_alloc]; omega) | (simp only [World.size_drew] at this; omega) | (simp only [size_alloc] at this; omega) | (simp only [World.size_drew, size_alloc] at this; omega))) (by first | omega | (simp only [World.size_drew]; omega) | (simp only [size_alloc]; omega) | (simp only [World.size_drew, size_alloc]; omega) | (have := (‹(_ ∧ Below (rlo) W5 _)›).2.size; first | omega | (simp only [World.size_drew]; omega) | (simp only [size_alloc]; omega) | (simp only [World.size_drew, size_alloc]; omega) | (simp only [World.size_drew] at this; omega) | (simp only [size_alloc] at this; omega) | (simp only [World.size_drew, size_alloc] at this; omega)))) (fun hHeld => ?_); clear hK K; try simp only [Act.put, List.setIfInBounds_toArray, List.set_cons_zero, List.set_cons_succ])
      refine wpAnyH_ready (rs := [9]) (by kernel_rfl) (by simp) ?_
      refine AllReadyH.cons (o := ⟨some 24, _, _, _, _, _⟩) rfl (fun K hK => ?_) AllReadyH.nil
      focus (go_simp; go_wp2_with fail; refine hK.out _ _ (by first | assumption | first | exact ⟨fun _ _ _ => rfl, (Below.refl _ _).drew⟩ | exact keep_stepX (by assumption) (by assumption) (by first | omega | (simp only [World.size_drew]; omega) | (simp only [size_alloc]; omega) | (simp only [World.size_drew, size_alloc]; omega) | (have := (‹(_ ∧ Below (rlo) W5 _)›).2.size; first | omega | (simp only [World.size_drew]; omega) | (simp only [size_alloc]; omega) | (simp only [World.size_drew, size_alloc]; omega) | (simp only [World.size_drew] at this; omega) | (simp only [size_alloc] at this; omega) | (simp only [World.size_drew, size_alloc] at this; omega))) (by first | omega | (simp only [World.size_drew]; omega) | (simp only [size_alloc]; omega) | (simp only [World.size_drew, size_alloc]; omega) | (have := (‹(_ ∧ Below (rlo) W5 _)›).2.size; first | omega | (simp only [World.size_drew]; omega) | (simp only [size_alloc]; omega) | (simp only [World.size_drew, size_alloc]; omega) | (simp only [World.size_drew] at this; omega) | (simp only [size_alloc] at this; omega) | (simp only [World.size_drew, size_alloc] at this; omega)))) (fun hHeld => ?_); clear hK K; try simp only [Act.put, List.setIfInBounds_toArray, List.set_cons_zero, List.set_cons_succ])
      refine wpAnyH_ready (rs := [10]) (by kernel_rfl) (by simp) ?_
      refine AllReadyH.cons (o := ⟨some 25, _, _, _, _, _⟩) rfl (fun K hK => ?_) AllReadyH.nil
      focus (go_simp; go_wp2_with fail; refine hK.out _ _ (by exact keep_stepX (by assumption) (below1 _ _) (by first | omega | (simp only [World.size_drew]; omega) | (simp only [size_alloc]; omega) | (simp only [World.size_drew, size_alloc]; omega) | (have := (‹(_ ∧ Below (rlo) W5 _)›).2.size; first | omega | (simp only [World.size_drew]; omega) | (simp only [size_alloc]; omega) | (simp only [World.size_drew, size_alloc]; omega) | (simp only [World.size_drew] at this; omega) | (simp only [size_alloc] at this; omega) | (simp only [World.size_drew, size_alloc] at this; omega))) (by first | omega | (simp only [World.size_drew]; omega) | (simp only [size_alloc]; omega) | (simp only [World.size_drew, size_alloc]; omega) | (have := (‹(_ ∧ Below (rlo) W5 _)›).2.size; first | omega | (simp only [World.size_drew]; omega) | (simp only [size_alloc]; omega) | (simp only [World.size_drew, size_alloc]; omega) | (simp only [World.size_drew] at this; omega) | (simp only [size_alloc] at this; omega) | (simp only [World.size_drew, size_alloc] at this; omega)))) (fun hHeld => ?_); clear hK K; try simp only [Act.put, List.setIfInBounds_toArray, List.set_cons_zero, List.set_cons_succ])
      refine wpAnyH_ready (rs := [11]) (by kernel_rfl) (by simp) ?_
      refine AllReadyH.cons (o := ⟨some 26, _, _, _, _, _⟩) rfl (fun K hK => ?_) AllReadyH.nil
      focus ((first | (go_at_call 32; refine (impl_LossName l[j].1 _ hi).mono ?_; rintro e w3 ⟨rfl, hb3⟩; have HB3 := Lib.hid (show Below W5.heap.size W5 w3 from (Below.refl _ _).drew.trans hb3)) | (go_at_call 33; refine (impl_PathText v l[j].2 a a2 cap cap2 B _ (HX5.out.below (‹_ ∧ Below (rlo) W5 _›).2 (by omega)) (HQ5.out.below EStep.loc (‹_ ∧ Below (rlo) W5 _›).2 (by omega)) (by omega) (by omega) (fun W hW => HT.out W ((HB5.out.mono hB).trans (((‹_ ∧ Below (rlo) W5 _›).2.mono (by omega)).trans hW))) (Nat.le_trans (by omega) (‹_ ∧ Below (rlo) W5 _›).2.size)).mono ?_; rintro e w4 ⟨rfl, hb4⟩; have HB4 := Lib.hid (HB3.out.trans (hb4.mono HB3.out.size))) | (refine step_appLX EStr.elem rfl _ _ 59 rfl (.string ⟨#[]⟩) 16 Tryd.underlying59 info_Str rfl rlo ar cr ws [] (by rw [hwl]; rfl) ((HA5.out.agree EStr.elem (fun f hf => HB4.out.block f hf) (by omega)).agree EStr.elem (fun f hf => (below1 w4 _).block f hf) (by have := HB4.out.size; omega)) (by have := HB4.out.size; simp only [size_alloc]; omega) w4.heap.size 0 1 1 [(lossNm l[j].1 ++ ⟨#[32]⟩) ++ pathT v ⟨#[36]⟩ l[j].2] [] rfl rfl ⟨[], [], rfl, ⟨rfl, (Is.new w4 #[.string ((lossNm l[j].1 ++ ⟨#[32]⟩) ++ pathT v ⟨#[36]⟩ l[j].2)] 9).cell 0 rfl⟩, rfl⟩ (by simp) (by omega) (by rw [hwl]; unfold maxLen; omega) (by rw [hwl]; omega) ?_; intro ar2 cr2 w6 happ6 hb6 hout6; have hx6 := hout6 wr.heap.size (by have := HB4.out.size; simp only [size_alloc]; omega) (fun k hk e => by have := HK.out k hk; omega))); refine hK.out _ _ (by exact keep_stepY (by assumption) (by assumption) (by assumption)) (fun hHeld => ?_); clear hK K; try simp only [Act.put, List.setIfInBounds_toArray, List.set_cons_zero, List.set_cons_succ])
      refine wpAnyH_take (i := 12) (oi := ⟨some 5, _, _, _, _, _⟩) (v := ?_) rfl (by kernel_rfl) (by kernel_rfl) (by kernel_rfl) (fun _ _ _ h => h) (Or.inl ⟨by rfl, ?_⟩) (by assumption) ?_
      rotate_left 1
      · (intro w hSw; (try dsimp only at hSw); go_simp; try (with_reducible rfl))
      try simp only [Act.put, List.setIfInBounds_toArray, List.set_cons_zero, List.set_cons_succ]
      refine wpAnyH_done (by kernel_rfl) ?_ _
      all_goals
        have HB6 := Lib.hid (show Below rlo W5 _ from (‹_ ∧ Below (rlo) W5 _›).2)
        go_wp2_with fail
        go_roundw
        case rel => exact ⟨j + 1, ar2, cr2, by omega, by go_num, by rw [HW.out, List.length_append, hwl]; rfl, by rw [HW.out]; exact happ6, (hb.trans (H5.out.mono (by have := hb.size; omega))).trans HB6.out⟩
        case measure => simp [intOf]; omega
    · have hjj : l.length = j := by omega
      have HJ := Lib.hid (show l.take j = l from by rw [← hjj, List.take_length]); clear hjj
      rw [HJ.out] at HA hwl
      rw [HJ.out]
      by_cases hz : l.length = 0
      · have HE := Lib.hid (show lossT v l = ⟨#[45]⟩ from if_pos hz)
        have hwz : (l.map (wordT v)).length = 0 := by rw [List.length_map]; exact hz
        rw [hwz]
        go_wp2_with fail
        go_ret
        exact ⟨ret_s HE.out.symm, HBw.out⟩
      · have HE := Lib.hid (show lossT v l = joinT (l.map (wordT v)) from if_neg hz)
        have hlen := words_len v l HS.out (by omega) hll
        rcases HA.out with ⟨_, _, hnil, _⟩ | ⟨g, cur, rfl, h1, h3, h4, h5, h6, h7, h8⟩
        · exfalso; have := congrArg List.length hnil; rw [hwl] at this; simp at this; omega
        have hg : g < wr.heap.size := (Array.getElem?_eq_some_iff.1 h3).1
        have hcells : ∀ (j : Nat) x, (l.map (wordT v))[j]? = some x → wr.cell? ⟨g, 0 + j, none⟩ = some (.string x) := by
          intro k x hk
          obtain ⟨hk1, hk2⟩ := List.getElem?_eq_some_iff.1 hk
          obtain ⟨F', hv, _⟩ := h7.get k hk1
          rw [hk2, Nat.mul_one] at hv
          exact hv.2
        have cJ := Tryd.strings_Join g 0 cr (l.map (wordT v)) ⟨#[59, 32]⟩ wr hcells hg (by rw [hwl]; omega) h4 hlen
        have hne : ¬ ((l.map (wordT v)).length : Int) = 0 := by rw [List.length_map]; omega
        have HEJ := Lib.hid (show lossT v l = ⟨(Lib.join ((l.map (wordT v)).map (·.data.toList)) (⟨#[59, 32]⟩ : ByteArray).data.toList).toArray⟩ from HE.out)
        clear hcells hlen h7 h3 hwl
        have CJ := Lib.hid cJ; clear cJ
        generalize (⟨(Lib.join ((l.map (wordT v)).map (·.data.toList)) (⟨#[59, 32]⟩ : ByteArray).data.toList).toArray⟩ : ByteArray) = out at *
        generalize (l.map (wordT v)).length = nn at *
        have hnn : nn ≤ 9223372036854775807 := by unfold maxLen at h5; omega
        go_wp2_with (go_at_call 34; refine CJ.out.mono ?_; rintro e w6 ⟨rfl, hb6⟩)
        go_ret
        exact ⟨ret_s HEJ.out.symm, HBw.out.trans (hb6.mono (by omega))⟩
end Go.Proofs.YtfbgmhjjdgglnaaDoor
