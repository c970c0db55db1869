/- Texts of this proof, merged: TigM, Tig6, Tig7, Less2, Pack2, Pack3. No condition beyond what each theorem states. -/
import Derived.Test.YtggdenkmohnijaaGreatDoorZO12
import Derived.Lib.Bytealg
import Derived.Lib.Bytes
import Derived.Lib.BytesEntry
import Derived.Laws.Externs
import Derived.Deep.RegionWith
set_option linter.unusedSimpArgs false
set_option linter.unnecessarySimpa false
namespace Go.Proofs.YtggdenkmohnijaaGreatDoor
open Go.ChangeShapes Go.WideShapes Go.ChangeAt Go.RowKit Go.Joins
set_option linter.unusedVariables false
set_option maxRecDepth 100000
set_option maxHeartbeats 4000000 in
theorem pt10 (n x : Int) (s : ByteArray) (l : List T) (IH : ∀ t ∈ l, PT t)  : PT (.mk 10 n x s l) := by
 intro a cap B w hr hwf hsz hB
 obtain ⟨hwk, hwn, hwx, hws⟩ := hwf
 simp only [cV, T.k, T.n, T.x, T.s, T.l] at hr hwk hwn hwx hws ⊢
 have hszl : T.szL l ≤ 1048576 := by simp only [T.sz] at hsz; omega
 obtain ⟨hl1, hl2⟩ := hr.len
 have hl0 := T.length_le_szL l
 have HR := Lib.hid hr
 have HI := Lib.hid IH
 have hwq : IntKind.i64.wrap ((l.length : Int) / 2) = ((l.length / 2 : Nat) : Int) := by rw [show (l.length : Int) / 2 = ((l.length / 2 : Nat) : Int) from by omega, Go.IntWalk.i64_left]; exact Go.IntWalk.wrap64_in _ ⟨by omega, by omega⟩
 have HE := Lib.hid (show packT (.mk 10 n x s l) = hdL 5 ((l.length / 2 : Nat) : Int) ++ packTs l from by rw [packT, if_neg (by omega), if_neg (by omega), if_neg (by omega), if_neg (by omega), if_neg (by omega), if_neg (by omega), if_neg (by omega), if_neg (by omega), if_pos rfl])
 clear hr IH hwk hwn hwx hws hsz
 go_enter Tryz.func22, Tryz.ntmps22
 go_wp2_with fail
 generalize hW : (w.alloc (Obj.cells _ 26)).alloc (Obj.cells #[] 5) = W0
 have q1 : Is W0 w.heap.size 26 (cV (.mk 10 n x s l) a cap) := by subst hW; exact (Is.new _ _ _).alloc _
 have H0 := Lib.hid (show Below w.heap.size w W0 from by subst hW; exact below2 _ _ _)
 have hs0 : W0.heap.size = w.heap.size + 2 := by subst hW; simp
 clear hW
 obtain ⟨r0, r1, r2, r3, r4⟩ := q1.cells5
 simp only [cV, T.k, T.n, T.x, T.s, T.l] at r0 r1 r2 r3 r4
 have hl3 : w.heap.size < W0.heap.size := by omega
 refine tkW (W0.heap.size) W0 (fun hHeld => ?_)
 refine tkS 0 103 rfl ?_
 refine tkS 1 104 rfl ?_
 refine tkS 2 105 rfl ?_
 refine tkS 3 106 rfl ?_
 refine tkS 7 110 rfl ?_
 refine tkS 8 111 rfl ?_
 refine tkA 4 107 rfl (fun K hK => ?_)
 go_simp; go_wp2_with fail; refine tkK hK (fun hHeld => ?_) (hS := (by first | assumption | first | exact kpZ | exact kpD (by assumption) | exact kpB (by assumption) (by assumption) | exact kpC (by assumption) (by assumption))); clear hK K
 refine tkA 5 108 rfl (fun K hK => ?_)
 focus (go_simp; (first | (go_at_call 73; refine (spec_PutHead0 5 ((l.length / 2 : Nat) : Int) kk _ _ ⟨by omega, by omega⟩).mono ?_; rintro e w3 ⟨a3, c3, rfl, happ3, hb3⟩; have HA3 := Lib.hid (happ3.less (show W0.heap.size ≤ _ by omega)); clear happ3; have hsz3 := hb3.size) | (go_at_call 77; refine (l13All_of l HI _ _ _ _ W0.heap.size _ _ B _ rfl HA3.out (by omega) (HR.out.below (H0.out.trans ((‹_ ∧ Below (W0.heap.size) W0 _›).2.mono (by omega))) hB) (by omega) hszl (by have := headL_len 5 ((l.length / 2 : Nat) : Int) kk; omega)).mono ?_; rintro e w4 ⟨a4, c4, rfl, happ4, hb4⟩; have hsz4 := hb4.size) | (go_at_call 75; (try simp only [T.l]); (try rw [hwq]); refine (spec_HeadForOk 5 ((l.length / 2 : Nat) : Int) _ (by omega) (by omega)).mono ?_; rintro e w2 ⟨⟨kk, rfl, hkk⟩, hb2⟩; have hsz2 := hb2.size; (try simp only [World.size_drew] at hsz2))); go_wp2_with fail; refine tkK hK (fun hHeld => ?_); clear hK K)
 refine tkA 6 109 rfl (fun K hK => ?_)
 focus (go_simp; (first | (go_at_call 73; refine (spec_PutHead0 5 ((l.length / 2 : Nat) : Int) kk _ _ ⟨by omega, by omega⟩).mono ?_; rintro e w3 ⟨a3, c3, rfl, happ3, hb3⟩; have HA3 := Lib.hid (happ3.less (show W0.heap.size ≤ _ by omega)); clear happ3; have hsz3 := hb3.size) | (go_at_call 77; refine (l13All_of l HI _ _ _ _ W0.heap.size _ _ B _ rfl HA3.out (by omega) (HR.out.below (H0.out.trans ((‹_ ∧ Below (W0.heap.size) W0 _›).2.mono (by omega))) hB) (by omega) hszl (by have := headL_len 5 ((l.length / 2 : Nat) : Int) kk; omega)).mono ?_; rintro e w4 ⟨a4, c4, rfl, happ4, hb4⟩; have hsz4 := hb4.size) | (go_at_call 75; (try simp only [T.l]); (try rw [hwq]); refine (spec_HeadForOk 5 ((l.length / 2 : Nat) : Int) _ (by omega) (by omega)).mono ?_; rintro e w2 ⟨⟨kk, rfl, hkk⟩, hb2⟩; have hsz2 := hb2.size; (try simp only [World.size_drew] at hsz2))); go_wp2_with fail; refine tkK hK (fun hHeld => ?_); clear hK K)
 refine tkA 9 112 rfl (fun K hK => ?_)
 focus (go_simp; (first | (go_at_call 73; refine (spec_PutHead0 5 ((l.length / 2 : Nat) : Int) kk _ _ ⟨by omega, by omega⟩).mono ?_; rintro e w3 ⟨a3, c3, rfl, happ3, hb3⟩; have HA3 := Lib.hid (happ3.less (show W0.heap.size ≤ _ by omega)); clear happ3; have hsz3 := hb3.size) | (go_at_call 77; refine (l13All_of l HI _ _ _ _ W0.heap.size _ _ B _ rfl HA3.out (by omega) (HR.out.below (H0.out.trans ((‹_ ∧ Below (W0.heap.size) W0 _›).2.mono (by omega))) hB) (by omega) hszl (by have := headL_len 5 ((l.length / 2 : Nat) : Int) kk; omega)).mono ?_; rintro e w4 ⟨a4, c4, rfl, happ4, hb4⟩; have hsz4 := hb4.size) | (go_at_call 75; (try simp only [T.l]); (try rw [hwq]); refine (spec_HeadForOk 5 ((l.length / 2 : Nat) : Int) _ (by omega) (by omega)).mono ?_; rintro e w2 ⟨⟨kk, rfl, hkk⟩, hb2⟩; have hsz2 := hb2.size; (try simp only [World.size_drew] at hsz2))); go_wp2_with fail; refine tkK hK (fun hHeld => ?_); clear hK K)
 refine tkS 10 2 rfl ?_
 refine tkE ?_
 all_goals
  have hBB := (‹_ ∧ Below (W0.heap.size) W0 _›).2
  go_wp2_with fail
  go_ret
  exact ⟨a4, c4, ret_sl (by rw [HE.out, hkk, List.length_append, show ((l.length / 2 : Nat) : Int) = (l.length : Int) / 2 from by omega]), by rw [HE.out, hkk]; exact happ4.less (by omega), H0.out.trans (hBB.mono (by omega))⟩
/- (Calls Tryz.prog 22) -/
theorem spec_PackTight : ∀ t : T, PT t := by
 apply T.ind
 intro k n x s l ih
 by_cases h0 : ¬ (k = 1 ∨ k = 2 ∨ k = 3 ∨ k = 4 ∨ k = 5 ∨ k = 7 ∨ k = 8 ∨ k = 9 ∨ k = 10 ∨ k = 11)
 ·exact pt0 k n x s l h0
 ·rcases Classical.not_not.1 h0 with h | h | h | h | h | h | h | h | h | h
  ·exact pt1 k n x s l h
  ·exact pt2 k n x s l h
  ·exact pt3 k n x s l h
  ·exact pt4 k n x s l h
  ·exact pt5 k n x s l h
  ·subst h; exact pt7 n x s l
  ·subst h; exact pt8 n x s l
  ·subst h; exact pt9 n x s l ih
  ·subst h; exact pt10 n x s l ih
  ·subst h
   by_cases hn : 0 ≤ n ∧ n ≤ 1000000000000000
   ·exact pt11 n x s l ih hn
   ·exact pt11n n x s l hn
set_option maxHeartbeats 4000000 in
theorem spec_LessTight (t u : T) (a a' : Option Addr) (cap cap' B : Nat) (w : World) (hr : R w B a cap t.l) (hr' : R w B a' cap' u.l) (hwf : Wf t) (hwf' : Wf u) (hsz : T.sz t ≤ 1048576) (hsz' : T.sz u ≤ 1048576) (hB : B ≤ w.heap.size) :
  Calls Tryz.prog 124 #[.agg (cV t a cap), .agg (cV u a' cap')] w fun e w' => e = .returned (.bool (lexB (packT t) (packT u))) ∧ Below w.heap.size w w' := by
 have CT := Lib.hid (fun W h1 h2 => spec_PackTight t a cap B W h1 hwf hsz h2)
 have CU := Lib.hid (fun W h1 h2 => spec_PackTight u a' cap' B W h1 hwf' hsz' h2)
 have HR := Lib.hid hr
 have HR' := Lib.hid hr'
 clear hwf hwf' hsz hsz' hr hr'
 go_enter Tryz.func124, Tryz.ntmps124
 go_wp2_with fail
 generalize hW : (w.alloc (Obj.cells _ 26)).alloc (Obj.cells _ 26) = W0
 have q1 : Is W0 w.heap.size 26 (cV t a cap) := by subst hW; exact (Is.new _ _ _).alloc _
 have q2 : Is W0 (w.heap.size + 1) 26 (cV u a' cap') := by subst hW; exact Is.new2 _ _ _ _
 have H0 := Lib.hid (show Below w.heap.size w W0 from by subst hW; exact below2 _ _ _)
 have hs0 : W0.heap.size = w.heap.size + 2 := by subst hW; simp
 clear hW
 obtain ⟨r0, r1, r2, r3, r4⟩ := q1.cells5
 obtain ⟨s0, s1, s2, s3, s4⟩ := q2.cells5
 have hl3 : w.heap.size + 1 < W0.heap.size := by omega
 have hl4 : w.heap.size < W0.heap.size := by omega
 refine tkW (W0.heap.size) W0 (fun hHeld => ?_)
 refine tkS 0 5 rfl ?_
 refine tkS 2 7 rfl ?_
 refine tkA 1 6 rfl (fun K hK => ?_)
 go_simp; (first | (go_at_call 189; refine (spec_LessBytes (packT t) (packT u) _ _ _ _ w4.heap.size _ (HA3.out.rd (by omega)) (HA4.out.rd (by omega)) (by first | exact Nat.le_refl _ | (simp only [World.size_drew]; omega))).mono ?_; rintro e w5 ⟨rfl, hb5⟩) | (go_at_call 22; have hguard := happ3; refine (CU.out _ (HR'.out.below (H0.out.trans ((‹_ ∧ Below (W0.heap.size) W0 _›).2.mono (by omega))) hB) (by have := (‹_ ∧ Below (W0.heap.size) W0 _›).2.size; omega)).mono ?_; rintro e w4 ⟨a4, c4, rfl, happ4, hb4⟩; have hsz4 := hb4.size; (try simp only [World.size_drew] at hsz4); have HA3 := Lib.hid ((happ3.less (show W0.heap.size ≤ _ by first | omega | (simp only [World.size_drew]; omega))).agree EByte.elem (fun f hf => hb4.block f hf) (by omega)); have HA4 := Lib.hid (happ4.less (show W0.heap.size ≤ _ by first | omega | (simp only [World.size_drew]; omega)))) | (go_at_call 22; refine (CT.out _ (HR.out.below (H0.out.trans ((‹_ ∧ Below (W0.heap.size) W0 _›).2.mono (by omega))) hB) (by have := (‹_ ∧ Below (W0.heap.size) W0 _›).2.size; omega)).mono ?_; rintro e w3 ⟨a3, c3, rfl, happ3, hb3⟩; have hsz3 := hb3.size; (try simp only [World.size_drew] at hsz3))); go_wp2_with fail; refine tkK hK (fun hHeld => ?_); clear hK K
 refine tkA 3 8 rfl (fun K hK => ?_)
 focus (go_simp; (first | (go_at_call 189; refine (spec_LessBytes (packT t) (packT u) _ _ _ _ w4.heap.size _ (HA3.out.rd (by omega)) (HA4.out.rd (by omega)) (by first | exact Nat.le_refl _ | (simp only [World.size_drew]; omega))).mono ?_; rintro e w5 ⟨rfl, hb5⟩) | (go_at_call 22; have hguard := happ3; refine (CU.out _ (HR'.out.below (H0.out.trans ((‹_ ∧ Below (W0.heap.size) W0 _›).2.mono (by omega))) hB) (by have := (‹_ ∧ Below (W0.heap.size) W0 _›).2.size; omega)).mono ?_; rintro e w4 ⟨a4, c4, rfl, happ4, hb4⟩; have hsz4 := hb4.size; (try simp only [World.size_drew] at hsz4); have HA3 := Lib.hid ((happ3.less (show W0.heap.size ≤ _ by first | omega | (simp only [World.size_drew]; omega))).agree EByte.elem (fun f hf => hb4.block f hf) (by omega)); have HA4 := Lib.hid (happ4.less (show W0.heap.size ≤ _ by first | omega | (simp only [World.size_drew]; omega)))) | (go_at_call 22; refine (CT.out _ (HR.out.below (H0.out.trans ((‹_ ∧ Below (W0.heap.size) W0 _›).2.mono (by omega))) hB) (by have := (‹_ ∧ Below (W0.heap.size) W0 _›).2.size; omega)).mono ?_; rintro e w3 ⟨a3, c3, rfl, happ3, hb3⟩; have hsz3 := hb3.size; (try simp only [World.size_drew] at hsz3))); go_wp2_with fail; refine tkK hK (fun hHeld => ?_); clear hK K)
 refine tkA 4 9 rfl (fun K hK => ?_)
 focus (go_simp; (first | (go_at_call 189; refine (spec_LessBytes (packT t) (packT u) _ _ _ _ w4.heap.size _ (HA3.out.rd (by omega)) (HA4.out.rd (by omega)) (by first | exact Nat.le_refl _ | (simp only [World.size_drew]; omega))).mono ?_; rintro e w5 ⟨rfl, hb5⟩) | (go_at_call 22; have hguard := happ3; refine (CU.out _ (HR'.out.below (H0.out.trans ((‹_ ∧ Below (W0.heap.size) W0 _›).2.mono (by omega))) hB) (by have := (‹_ ∧ Below (W0.heap.size) W0 _›).2.size; omega)).mono ?_; rintro e w4 ⟨a4, c4, rfl, happ4, hb4⟩; have hsz4 := hb4.size; (try simp only [World.size_drew] at hsz4); have HA3 := Lib.hid ((happ3.less (show W0.heap.size ≤ _ by first | omega | (simp only [World.size_drew]; omega))).agree EByte.elem (fun f hf => hb4.block f hf) (by omega)); have HA4 := Lib.hid (happ4.less (show W0.heap.size ≤ _ by first | omega | (simp only [World.size_drew]; omega)))) | (go_at_call 22; refine (CT.out _ (HR.out.below (H0.out.trans ((‹_ ∧ Below (W0.heap.size) W0 _›).2.mono (by omega))) hB) (by have := (‹_ ∧ Below (W0.heap.size) W0 _›).2.size; omega)).mono ?_; rintro e w3 ⟨a3, c3, rfl, happ3, hb3⟩; have hsz3 := hb3.size; (try simp only [World.size_drew] at hsz3))); go_wp2_with fail; refine tkK hK (fun hHeld => ?_); clear hK K)
 refine tkS 5 4 rfl ?_
 refine tkE ?_
 all_goals
  have hBB := (‹_ ∧ Below (W0.heap.size) W0 _›).2
  go_wp2_with fail
  go_ret
  exact ⟨rfl, H0.out.trans (hBB.mono (by omega))⟩
theorem u8_nat {x : Int} (h : U8 x) : (UInt8.ofNat x.toNat).toNat = x.toNat := by
 unfold U8 at h
 rw [UInt8.toNat_ofNat']; omega
theorem lexB_compare : ∀ (x y : List Int), (∀ a ∈ x, U8 a) → (∀ a ∈ y, U8 a) → lexB x y = decide (Lib.compareBytes (Lib.bytesOf x) (Lib.bytesOf y) < 0)
 | [], [], _, _ => rfl
 | [], _ :: _, _, _ => rfl
 | _ :: _, [], _, _ => rfl
 | a :: x, b :: y, hx, hy => by
  have ih := lexB_compare x y (fun c hc => hx c (List.mem_cons_of_mem _ hc)) (fun c hc => hy c (List.mem_cons_of_mem _ hc))
  have ha := hx a (List.mem_cons_self ..)
  have hb := hy b (List.mem_cons_self ..)
  have e1 := u8_nat ha
  have e2 := u8_nat hb
  have i1 : 0 ≤ a := by unfold U8 at ha; omega
  have i2 : 0 ≤ b := by unfold U8 at hb; omega
  simp only [lexB, Lib.bytesOf, List.map_cons, Lib.compareBytes]
  rw [show List.map (fun n => UInt8.ofNat n.toNat) x = Lib.bytesOf x from rfl, show List.map (fun n => UInt8.ofNat n.toNat) y = Lib.bytesOf y from rfl]
  have l1 : (UInt8.ofNat a.toNat < UInt8.ofNat b.toNat) ↔ a < b := by rw [UInt8.lt_iff_toNat_lt, e1, e2]; omega
  have l2 : (UInt8.ofNat b.toNat < UInt8.ofNat a.toNat) ↔ b < a := by rw [UInt8.lt_iff_toNat_lt, e1, e2]; omega
  simp only [l1, l2]
  by_cases h : a = b
  ·subst h
   rw [if_pos rfl, if_neg (by omega), if_neg (by omega)]; exact ih
  ·rw [if_neg h]
   by_cases h1 : a < b
   ·rw [if_pos h1, decide_eq_true h1]; rfl
   ·rw [if_neg h1, if_pos (by omega), decide_eq_false h1]; rfl
theorem run_bytesOfRd {P : Program} (w : World) (x : List Int) (a : Option Addr) (cap B : Nat) (hr : Rd EByte 1 w B a cap x) :
  (Extern.Bytes.bytesOf (.slice a x.length cap)).run P w = .ok ⟨(Lib.bytesOf x).toArray⟩ w := by
 by_cases h : x = []
 ·subst h
  cases a <;> simp [Extern.Bytes.bytesOf, Extern.Bytes.loadBytes, Lib.bytesOf] <;> rfl
 ·have hp : 0 < x.length := List.length_pos_iff.2 h
  obtain ⟨b, o, ha, _, _, _⟩ := hr.byte 0 hp
  subst ha
  have := Lib.run_loadBytesX (P := P) w x ⟨b, o, none⟩ .empty (fun j v hj => by
   have hjl : j < x.length := by
    rcases Nat.lt_or_ge j x.length with h | h
    ·exact h
    ·rw [List.getElem?_eq_none h] at hj; cases hj
   obtain ⟨b', o', ha, _, hc, _⟩ := hr.byte j hjl
   injection ha with ha; injection ha with ha ha2; subst ha ha2
   rw [Addr.add_lit, hc]
   rw [List.getElem?_eq_getElem hjl] at hj
   injection hj with hj; rw [hj])
  simp only [Extern.Bytes.bytesOf]
  rw [this]
  exact congrArg (fun z => Result.ok (ByteArray.mk z) w) (by show (#[] : Array UInt8) ++ _ = _; simp)
theorem run_compareSl {P : Program} (w : World) (x y : List Int) (a a' : Option Addr) (cap cap' B : Nat) (hr : Rd EByte 1 w B a cap x) (hr' : Rd EByte 1 w B a' cap' y) :
  (Extern.BytealgCompare.compare #[.slice a x.length cap, .slice a' y.length cap']).run P w = .ok (.int .i64 (Lib.compareBytes (Lib.bytesOf x) (Lib.bytesOf y))) w := by
 change Sem.run P (do pure (goInt (Extern.BytealgCompare.cmp (← Extern.Bytes.bytesOf (.slice a x.length cap)) (← Extern.Bytes.bytesOf (.slice a' y.length cap'))))) w = _
 simp only [Sem.run_bind, Sem.run_pure, run_bytesOfRd w x a cap B hr, run_bytesOfRd w y a' cap' B hr', Result.andThen]
 rw [Lib.cmp_eq]
 rfl
set_option maxHeartbeats 2000000 in
set_option maxRecDepth 100000 in
theorem bytes_Compare (x y : List Int) (a a' : Option Addr) (cap cap' B : Nat) (w : World) (hr : Rd EByte 1 w B a cap x) (hr' : Rd EByte 1 w B a' cap' y) :
  Calls Tryz.prog 187 #[.slice a x.length cap, .slice a' y.length cap'] w fun e w' => e = .returned (.int .i64 (Lib.compareBytes (Lib.bytesOf x) (Lib.bytesOf y))) ∧ w' = w := by
 have HC := Lib.hid (run_compareSl (P := Tryz.prog) w x y a a' cap cap' B hr hr')
 clear hr hr'
 go_enter Tryz.func187, Tryz.ntmps187
 go_wp2
 rw [run_callFunc_extern Tryz.func235 (by kernel_rfl) (by kernel_rfl) (by kernel_rfl) (e := Extern.BytealgCompare.compare) (by kernel_rfl), HC.out]
 simp only [Result.andThen]
 rw [Oper.upon_value]
 go_wp2
 go_ret
 exact ⟨rfl, rfl⟩
theorem impl_LessBytes (x y : List Int) (a a' : Option Addr) (cap cap' B : Nat) (w : World) (hr : Rd EByte 1 w B a cap x) (hr' : Rd EByte 1 w B a' cap' y) (hu : ∀ v ∈ x, U8 v) (hu' : ∀ v ∈ y, U8 v) :
  Calls Tryz.prog 120 #[.slice a x.length cap, .slice a' y.length cap'] w fun e w' => e = .returned (.bool (lexB x y)) ∧ Below w.heap.size w w' := by
 have HC := Lib.hid (bytes_Compare x y a a' cap cap' B w hr hr')
 have HL := Lib.hid (lexB_compare x y hu hu')
 clear hr hr' hu hu'
 go_enter Tryz.func120, Tryz.ntmps120
 go_wp2_with fail
 refine HC.out.mono ?_
 rintro e w2 ⟨rfl, rfl⟩
 go_wp2_with fail
 go_ret
 exact ⟨ret_b (by rw [HL.out]), Below.refl _ _⟩
def Pk (w : World) (g : Nat) (b : List Int) : Prop := ∃ (a : Option Addr) (cap : Nat), Is w g 52 #[.slice a b.length cap, .bool false, .bool false] ∧ AppL EByte 1 5 w (g + 1) a cap b []
theorem Pk.lt {w : World} {g : Nat} {b : List Int} (h : Pk w g b) : g < w.heap.size := by obtain ⟨_, _, h, _⟩ := h; exact h.lt
theorem Pk.below {w w' : World} {g : Nat} {b : List Int} (h : Pk w g b) (hb : Below w.heap.size w w') : Pk w' g b := by
 have hl := h.lt
 obtain ⟨a, cap, h1, h2⟩ := h
 exact ⟨a, cap, h1.below hb hl, h2.agree EByte.elem (fun f hf => hb.block f hf) (by omega)⟩
theorem Pk.stored {w : World} {g : Nat} {b b' : List Int} {a a' : Option Addr} {cap cap' : Nat} (h : Is w g 52 #[.slice a b.length cap, .bool false, .bool false]) (h2 : AppL EByte 1 5 w (g + 1) a' cap' b' []) : Pk (w.setCell ⟨g, 0, none⟩ (.slice a' b'.length cap')) g b' :=
 ⟨a', cap', h.set 0 _, h2.agreeB EByte.elem (fun f hf _ => heap_miss _ _ _ _ (by omega) _)⟩
set_option maxHeartbeats 8000000 in
theorem impl_packHead (b : List Int) (m n k : Int) (g : Nat) (w : World) (hp : Pk w g b) (hn : I64 n) (hz : b.length ≤ 1073741824) :
  Calls Tryz.prog 129 #[.pointer (some ⟨g, 0, none⟩), .agg (cH m n k)] w fun e w' => e = .returned (.tuple #[]) ∧ Pk w' g (b ++ headL m n k) ∧ Below g w w' := by
 have hg := hp.lt
 have q0 := Is.new w (cH m n k) 56
 have HB0 := Lib.hid (below1 w (.cells (cH m n k) 56))
 have HP := Lib.hid hp
 obtain ⟨a, cap, hp1, hp2⟩ := hp
 have p1 := hp1.alloc (.cells (cH m n k) 56)
 obtain ⟨c0, c1, c2⟩ := q0.cells3
 obtain ⟨e0, e1, e2⟩ := p1.cells3
 have lg : w.heap.size < (w.alloc (.cells (cH m n k) 56)).heap.size := by simp
 have lg1 : g < (w.alloc (.cells (cH m n k) 56)).heap.size := by simp; omega
 obtain ⟨bb, hbb⟩ : ∃ r, decide (headOk m n k) = r := ⟨_, rfl⟩
 have HBB := Lib.hid hbb
 have HN := Lib.hid hn
 clear hbb hn
 go_enter Tryz.func129, Tryz.ntmps129
 go_wp2_with fail
 refine (impl_HeadOk m n k _ HN.out).mono ?_
 rintro ee w2 ⟨rfl, hb2⟩
 rw [HBB.out]
 have q2 := q0.below hb2 lg
 have p2 := p1.below hb2 lg1
 obtain ⟨d0, d1, d2⟩ := q2.cells3
 obtain ⟨f0, f1, f2⟩ := p2.cells3
 have ff := fun i => p2.frozen i
 have lg2 : w.heap.size < w2.heap.size := q2.lt
 have lg3 : g < w2.heap.size := by omega
 have HB2 := Lib.hid (HB0.out.trans (hb2.mono (by simp)))
 have HA2 := Lib.hid (hp2.agree EByte.elem (fun f hf => HB2.out.block f hf) (by omega))
 have P2 := Lib.hid p2
 clear c0 c1 c2 e0 e1 e2 hb2 q0 q2 lg lg1 HB0 p1 p2 hp1 hp2
 cases bb with
 | false =>
  have HE := Lib.hid (show b ++ headL m n k = b from by unfold headL; rw [if_neg (of_decide_eq_false HBB.out), List.append_nil])
  go_wp2_with fail
  go_end0
  exact ⟨rfl, by rw [HE.out]; exact HP.out.below HB2.out, HB2.out.mono (by omega)⟩
 | true =>
  have CP := Lib.hid (fun (W : World) (h : Below w2.heap.size w2 W) => impl_PutHead b m n k a cap w2.heap.size W ((HA2.out.rd (by omega)).below EByte.loc h (Nat.le_refl _)) HN.out hz h.size)
  go_wp2_with fail
  go_region_with (go_at_call 191; refine (CP.out _ ?_).mono ?_; (first | exact Below.refl _ _ | exact (Below.refl _ _).drew | exact below_drewN _ _ _); rintro e w3 ⟨a3, c3, rfl, happ3, hb3⟩; have hs3 := hb3.size; have p3 := P2.out.agree (hb3.block g (by first | omega | (simp only [World.size_drew]; omega))); obtain ⟨x0, x1, x2⟩ := p3.cells3; have ff3 := fun i => p3.frozen i; have lg4 := p3.lt; have HX3 := Lib.hid (show Below g w2 w3 from by first | exact hb3.mono (by omega) | exact ((Below.refl _ _).drew).trans (hb3.mono (by simp only [World.size_drew]; omega))); have HA3 := Lib.hid (happ3.less (show g + 1 ≤ _ by first | omega | (simp only [World.size_drew]; omega))); clear happ3 hb3)
  all_goals
   go_wp2_with fail
   go_end0
   have hst := Pk.stored p3 HA3.out
   rw [List.length_append] at hst
   exact ⟨rfl, hst, ((HB2.out.mono (by omega)).trans HX3.out).trans (below1s _ _ _ _)⟩
theorem impl_HeadForOk (m n : Int) (w : World) (hm : 0 ≤ m ∧ m ≤ 7) (hn : 0 ≤ n ∧ n ≤ 1000000000000000) :
  Calls Tryz.prog 190 #[.int .i64 m, .int .i64 n] w fun e w' => (∃ k, e = .returned (.agg (cH m n k)) ∧ hdL m n = headL m n k) ∧ Below w.heap.size w w' := by
 refine (impl_HeadFor m n w ⟨by omega, by omega⟩).mono ?_
 rintro e w' ⟨rfl, hb⟩
 refine ⟨⟨if 23 < n then widthD n else 0, ?_, ?_⟩, hb⟩
 ·rw [headForD_ok hm hn]
 ·unfold hdL; rw [headForD_ok hm hn]
set_option maxHeartbeats 2000000 in
theorem impl_packNumber (b : List Int) (m n : Int) (g : Nat) (w : World) (hp : Pk w g b) (hm : 0 ≤ m ∧ m ≤ 7) (hn : 0 ≤ n ∧ n ≤ 1000000000000000) (hz : b.length ≤ 1073741824) :
  Calls Tryz.prog 126 #[.pointer (some ⟨g, 0, none⟩), .int .i64 m, .int .i64 n] w fun e w' => e = .returned (.tuple #[]) ∧ Pk w' g (b ++ hdL m n) ∧ Below g w w' := by
 have hg := hp.lt
 have HP := Lib.hid hp; clear hp
 have HM := Lib.hid hm; have HN := Lib.hid hn
 go_enter Tryz.func126, Tryz.ntmps126
 go_wp2_with fail
 refine (impl_HeadForOk m n _ HM.out HN.out).mono ?_
 rintro ee w2 ⟨⟨kk, rfl, hkk⟩, hb2⟩
 have hs2 := hb2.size
 have HB2 := Lib.hid hb2
 have HKK := Lib.hid hkk
 clear hb2 hkk hm hn
 have q3 := Is.new w2 (cH m n kk) 56
 obtain ⟨c0, c1, c2⟩ := q3.cells3
 have lg3 := q3.lt
 have HP3 := Lib.hid ((HP.out.below HB2.out).below (below1 w2 (.cells (cH m n kk) 56)))
 have HB3 := Lib.hid (HB2.out.trans ((below1 w2 (.cells (cH m n kk) 56)).mono hs2))
 go_wp2_with fail
 refine (impl_packHead b m n kk g _ HP3.out ⟨by have := HN.out; omega, by have := HN.out; omega⟩ hz).mono ?_
 rintro ee w4 ⟨rfl, hp4, hb4⟩
 have HP4 := Lib.hid hp4
 have HB4 := Lib.hid ((HB3.out.mono (by omega)).trans hb4)
 clear hp4 hb4
 go_wp2_with fail
 (first | go_end0 | refine bodyPost_ret (results_none rfl _ _ _) rfl ?_)
 exact ⟨rfl, by rw [HKK.out]; exact HP4.out, HB4.out⟩
set_option maxHeartbeats 2000000 in
theorem impl_packText (b : List Int) (m : Int) (s : ByteArray) (g : Nat) (w : World) (hp : Pk w g b) (hm : 0 ≤ m ∧ m ≤ 7) (hbu : ∀ x ∈ b, U8 x) (hz : b.length ≤ 1073741824) (hs : s.size ≤ 1073741824) :
  Calls Tryz.prog 127 #[.pointer (some ⟨g, 0, none⟩), .int .i64 m, .string s] w fun e w' => e = .returned (.tuple #[]) ∧ Pk w' g (b ++ (hdL m s.size ++ byteL s)) ∧ Below g w w' := by
 have hg := hp.lt
 have HP := Lib.hid hp
 have HM := Lib.hid hm
 have HU := Lib.hid hbu
 obtain ⟨a, cap, hp1, hp2⟩ := hp
 obtain ⟨e0, e1, e2⟩ := hp1.cells3
 clear hp1 hp2 hbu hm
 go_enter Tryz.func127, Tryz.ntmps127
 go_wp2_with fail
 refine (impl_packNumber b m s.size g w HP.out HM.out (by omega) hz).mono ?_
 rintro ee w2 ⟨rfl, hp2, hb2⟩
 have hg2 := hp2.lt
 have HB2 := Lib.hid hb2
 clear hb2 e0 e1 e2
 obtain ⟨a2, c2, i2, happ2⟩ := hp2
 obtain ⟨f0, f1, f2⟩ := i2.cells3
 have hrow := happ2.row
 have hl9 := hdL_len m (s.size : Int)
 obtain ⟨a3, c3, w3, hrun, happ3, hb3, hout3, hsz3⟩ := run_appStr (P := Tryz.prog) w2 22 9 22 Tryz.underlying22 Tryz.underlying9 info_Byte2 (g + 1) a2 c2 (b ++ hdL m s.size) (fun x hx => by rcases List.mem_append.1 hx with h | h; exact HU.out x h; exact hdL_u8 _ _ x h) happ2 (by omega) s (by rw [List.length_append]; omega)
 have i3 := i2.agree (hout3 g hg2 (fun k hk => by have := (hrow k hk).1; omega))
 obtain ⟨y0, y1, y2⟩ := i3.cells3
 have ff := fun i => i3.frozen i
 have hg3 : g < w3.heap.size := i3.lt
 have HP3 := Lib.hid (Pk.stored i3 happ3)
 have HB3 := Lib.hid ((HB2.out.trans (hb3.mono (by omega))).trans (below1s w3 g 0 (.slice a3 ((b ++ hdL m s.size) ++ byteL s).length c3)))
 rw [List.append_assoc] at HP3
 simp only [List.length_append] at hrun HP3 HB3
 clear i2 happ2 hrow happ3 hb3 hout3 i3 HP
 go_wp2_with (at_builtin; refine Lib.wpList_append_run _ rfl _ _ _ _ rfl _ _ rfl rfl _ _ hrun ?_)
 (first | go_end0 | refine bodyPost_ret (results_none rfl _ _ _) rfl ?_)
 refine ⟨rfl, ?_, ?_⟩
 ·have h := HP3.out
  simp only [Nat.add_assoc] at h ⊢
  exact h
 ·have h := HB3.out
  simp only [Nat.add_assoc] at h ⊢
  exact h
def PV (t : T) : Prop := ∀ (b : List Int) (a : Option Addr) (cap B g : Nat) (w : World), R w B a cap t.l → Wf t → T.sz t ≤ 1048576 → B ≤ g → Pk w g b → (∀ x ∈ b, U8 x) → b.length + 10 * T.sz t + 10 ≤ 1073741824 →
  Calls Tryz.prog 72 #[.pointer (some ⟨g, 0, none⟩), .agg (cV t a cap)] w fun e w' => e = .returned (.tuple #[]) ∧ Pk w' g (b ++ packT t) ∧ Below g w w'
theorem packTs_u8 (l : List T) : ∀ x ∈ packTs l, U8 x := by
 induction l with
 | nil => intro x hx; cases hx
 | cons t r ih =>
  intro x hx
  rw [packTs] at hx
  rcases List.mem_append.1 hx with h | h
  ·exact packT_u8 t x h
  ·exact ih x h
set_option maxHeartbeats 4000000 in
theorem impl_packElems (l : List T) (IH : Hid (∀ t ∈ l, PV t)) (b : List Int) (m n : Int) (a : Option Addr) (cap B g : Nat) (w : World) (hr : R w B a cap l) (hsz : T.szL l ≤ 1048576) (hB : B ≤ g) (hp : Pk w g b) (hm : 0 ≤ m ∧ m ≤ 7) (hn : 0 ≤ n ∧ n ≤ 1000000000000000) (hbu : ∀ x ∈ b, U8 x) (hz : b.length + 9 + 10 * T.szL l ≤ 1073741824) :
  Calls Tryz.prog 128 #[.pointer (some ⟨g, 0, none⟩), .int .i64 m, .int .i64 n, .slice a l.length cap] w fun e w' => e = .returned (.tuple #[]) ∧ Pk w' g (b ++ (hdL m n ++ packTs l)) ∧ Below g w w' := by
 have hg := hp.lt
 obtain ⟨hl1, hl2⟩ := hr.len
 have HP := Lib.hid hp
 have HM := Lib.hid hm; have HN := Lib.hid hn
 have HU := Lib.hid hbu
 have HR := Lib.hid hr
 obtain ⟨a0, cap0, hp1, hp2⟩ := hp
 obtain ⟨e0, e1, e2⟩ := hp1.cells3
 clear hp1 hp2 hbu hm hn hr
 go_enter Tryz.func128, Tryz.ntmps128
 go_wp2_with fail
 refine (impl_packNumber b m n g w HP.out HM.out HN.out (by omega)).mono ?_
 rintro ee w2 ⟨rfl, hp2, hb2⟩
 have HB2 := Lib.hid hb2
 have HP2 := Lib.hid hp2
 have hg2 := hp2.lt
 clear hb2 hp2 HP
 have hl9 := hdL_len m n
 go_wp2_with fail
 go_loopw [30] (fun i wr => ∃ (j : Nat), j ≤ l.length ∧ i = .int .i64 j ∧ Hid (Pk wr g (b ++ (hdL m n ++ packTs (l.take j)))) ∧ Hid (Below g w wr)) (fun i _ => l.length - (intOf i).toNat)
 case atStart => exact ⟨0, Nat.zero_le _, rfl, Lib.hid (by rw [List.take_zero, packTs, List.append_nil]; exact HP2.out), HB2⟩
 case round =>
  obtain ⟨j, hj, rfl, HPj, HBj⟩ := hrel
  have hgr := HPj.out.lt
  by_cases hlt : j < l.length
  ·obtain ⟨bb, o, a2, cap2, rfl, hbl2, d0, d1, d2, d3, d4, hwf, hq⟩ := (HR.out.below HBj.out hB).get j hlt
   have hszj := T.sz_get l j hlt
   have h1 := T.szL_take_succ l j hlt
   have h2 := T.szL_take_le l (j + 1)
   have h3 := packTs_len (l.take j)
   have hlb : bb < wr.heap.size := by omega
   have HWF := Lib.hid hwf
   have HQ := Lib.hid hq
   have HS := Lib.hid (show b ++ (hdL m n ++ packTs (l.take (j + 1))) = (b ++ (hdL m n ++ packTs (l.take j))) ++ packT l[j] from by rw [packTs_succ l j hlt]; simp only [List.append_assoc])
   obtain ⟨u, hu⟩ : ∃ u, l[j] = u := ⟨_, rfl⟩
   have HPV : Hid (PV u) := Lib.hid (by rw [← hu]; exact IH.out l[j] (List.getElem_mem hlt))
   rw [hu] at d0 d1 d2 d3 d4 HQ HWF HS hszj h1
   clear hwf hq hu
   go_wp2_with fail
   generalize hW : wr.alloc _ = W1 at *
   have hb1 : Below wr.heap.size wr W1 := by rw [← hW]; exact below1 _ _
   have q1 : Is W1 wr.heap.size 26 (cV u a2 cap2) := by rw [← hW]; exact Is.new _ _ _
   clear hW
   obtain ⟨x0, x1, x2, x3, x4⟩ := q1.cells5
   have lx := q1.lt
   have hs1 := hb1.size
   have HP1 := Lib.hid (HPj.out.below hb1)
   have HB1 := Lib.hid (HBj.out.trans (hb1.mono (by omega)))
   have HQ1 := Lib.hid (HQ.out.below hb1 (by omega))
   clear hb1 q1
   go_wp2_with fail
   refine (HPV.out _ a2 cap2 B g _ HQ1.out HWF.out (by omega) hB HP1.out (fun x hx => by
    rcases List.mem_append.1 hx with h | h
    ·exact HU.out x h
    ·rcases List.mem_append.1 h with h | h
     ·exact hdL_u8 _ _ x h
     ·exact packTs_u8 _ x h) (by simp only [List.length_append]; omega)).mono ?_
   rintro ee w4 ⟨rfl, hp4, hb4⟩
   have HP4 : Hid (Pk w4 g (b ++ (hdL m n ++ packTs (l.take (j + 1))))) := Lib.hid (by rw [HS.out]; exact hp4)
   have HB4 := Lib.hid (HB1.out.trans hb4)
   clear hp4 hb4
   go_wp2_with fail
   go_roundw
   case rel => exact ⟨j + 1, by omega, by go_num, HP4, HB4⟩
   case measure => simp [intOf]; omega
  ·have hjj : l.length = j := by omega
   have HJ := Lib.hid (show l.take j = l from by rw [← hjj, List.take_length])
   rw [HJ.out] at HPj
   go_wp2_with fail
   (first | go_end0 | refine bodyPost_ret (results_none rfl _ _ _) rfl ?_)
   exact ⟨rfl, HPj.out, HBj.out⟩
end Go.Proofs.YtggdenkmohnijaaGreatDoor
