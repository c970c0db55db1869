/- Texts of this proof, merged: Once2, Once3, MarkP, MrkR, LookW. No condition beyond what each theorem states. -/
import Derived.Test.YtggdenkmohnijaaGreatDoorZN30
import Derived.Test.YtggdenkmohnijaaGreatDoorZN29
set_option linter.unusedSimpArgs false
set_option linter.unnecessarySimpa false
namespace Go.Proofs.YtggdenkmohnijaaGreatDoor
open Go.ChangeShapes Go.WideShapes Go.ChangeAt Go.RowKit Go.Joins
set_option linter.unusedVariables false
set_option maxRecDepth 100000
def lastT (t : T) : T := if t.k = 10 ∧ t.l.length % 2 = 0 then .mk t.k t.n t.x t.s (lastP t.l) else t
theorem lastT_yes {t : T} (h : pairedB t = true) : lastT t = .mk t.k t.n t.x t.s (lastP t.l) := by
  unfold pairedB at h; simp at h; exact if_pos h
theorem lastT_no {t : T} (h : pairedB t = false) : lastT t = t := by
  unfold pairedB at h; simp at h; exact if_neg (fun g => by have := h g.1; omega)
theorem keepN_succ_no (l : List T) (p i : Nat) (hi : i = 2 * p) (h : i < l.length) (hn : hasNm l[i] (l.drop (i + 2)) = true) : keepN l (p + 1) = keepN l p := by
  subst hi
  rw [keepN, List.getD_eq_getElem?_getD, List.getElem?_eq_getElem h, Option.getD_some, if_pos hn, List.append_nil]
theorem keepN_succ_yes (l : List T) (p i : Nat) (hi : i = 2 * p) (h : i < l.length) (h1 : i + 1 < l.length) (hn : hasNm l[i] (l.drop (i + 2)) = false) : keepN l (p + 1) = keepN l p ++ [l[i], l[i + 1]] := by
  subst hi
  rw [keepN, List.getD_eq_getElem?_getD, List.getElem?_eq_getElem (by omega), Option.getD_some, if_neg (by rw [hn]; simp), List.getD_eq_getElem?_getD, List.getElem?_eq_getElem h1, Option.getD_some]
def KpO (W : World) (b o : Nat) (l : List T) (FL : List Nat) (i : Nat) (Fk : List Nat) : Prop :=
  ∃ F1 F2, FL = F1 ++ F2 ∧ Row TV 5 W b (o + i * 5) (l.drop i) F2 ∧ (∀ f ∈ Fk, f ∈ F1) ∧ Fk.Nodup
theorem KpO.start {W : World} {b o : Nat} {l : List T} {FL : List Nat} (h : Row TV 5 W b o l FL) : KpO W b o l FL 0 [] := ⟨[], FL, rfl, by simpa using h, by simp, by simp⟩
theorem KpO.next {W : World} {b o : Nat} {l : List T} {FL Fk : List Nat} {i : Nat} (h : KpO W b o l FL i Fk) (hp : i + 1 < l.length) (hn : FL.Nodup) :
    ∃ Ga Gb, TV W b (o + i * 5) l[i] Ga ∧ TV W b (o + (i + 1) * 5) l[i + 1] Gb ∧ (∀ f ∈ Ga ++ Gb, f ∈ FL) ∧ (Ga ++ Gb).Nodup ∧ KpO W b o l FL (i + 2) Fk ∧ KpO W b o l FL (i + 2) (Fk ++ (Ga ++ Gb)) := by
  obtain ⟨F1, F2, rfl, hr, hs, hk⟩ := h
  rw [List.drop_eq_getElem_cons (by omega : i < l.length), List.drop_eq_getElem_cons hp] at hr
  obtain ⟨Ga, F3, rfl, ha, hr⟩ := hr
  obtain ⟨Gb, F4, rfl, hb, hr⟩ := hr
  obtain ⟨n1, n2, n3⟩ := List.nodup_append.1 hn
  rw [← List.append_assoc] at n2
  obtain ⟨m1, m2, m3⟩ := List.nodup_append.1 n2
  rw [show o + i * 5 + 5 + 5 = o + (i + 2) * 5 from by omega] at hr
  rw [show o + i * 5 + 5 = o + (i + 1) * 5 from by omega] at hb
  refine ⟨Ga, Gb, ha, hb, fun f hf => by rcases List.mem_append.1 hf with h | h <;> simp [h], m1, ⟨F1 ++ (Ga ++ Gb), F4, by simp, hr, fun f hf => by simp [hs f hf], hk⟩, ⟨F1 ++ (Ga ++ Gb), F4, by simp, hr, ?_, ?_⟩⟩
  · intro f hf
    rcases List.mem_append.1 hf with h | h
    · simp [hs f h]
    · exact List.mem_append_right _ h
  · rw [List.nodup_append]
    refine ⟨hk, m1, fun x hx y hy e => n3 x (hs x hx) y ?_ e⟩
    rw [← List.append_assoc]; exact List.mem_append_left _ hy
theorem KpO.sub {W : World} {b o : Nat} {l : List T} {FL Fk : List Nat} {i : Nat} (h : KpO W b o l FL i Fk) : (∀ f ∈ Fk, f ∈ FL) ∧ Fk.Nodup := by
  obtain ⟨F1, F2, rfl, hr, hs, hk⟩ := h
  exact ⟨fun f hf => by simp [hs f hf], hk⟩
theorem AppL.agree2 {α : Type} {E : World → Nat → Nat → α → List Nat → Prop} {n : Nat} {e : TypeId} (hE : Elem E n) {w w' : World} {rlo cap : Nat} {a : Option Addr} {l : List α} {F : List Nat} (h : AppL E n e w rlo a cap l F) (hw : ∀ f, rlo ≤ f → f < w.heap.size → w'.heap[f]? = w.heap[f]?) (hF : ∀ f ∈ F, w'.heap[f]? = w.heap[f]?) : AppL E n e w' rlo a cap l F := by
  rcases h with h | ⟨g, cur, ha, h1, h3, h4, h5, h6, h7, h8⟩
  · exact Or.inl h
  · have hg : g < w.heap.size := (Array.getElem?_eq_some_iff.1 h3).1
    exact Or.inr ⟨g, cur, ha, h1, (hw g h1 hg).trans h3, h4, h5, h6, h7.agree hE.loc l (Cells.of_block (hw g h1 hg) _ _) hF, h8⟩
theorem wrap_i64O (n : Int) (h0 : -9223372036854775808 ≤ n) (h1 : n ≤ 9223372036854775807) : IntKind.i64.wrap n = n := by
  unfold IntKind.wrap; simp [IntKind.signed, IntKind.bits]; omega
theorem Own.rows {w : World} {lo hi cap : Nat} {a : Option Addr} {l : List T} (h : Own w lo hi a cap l) : ∃ b o FE, (l ≠ [] → a = some ⟨b, o, none⟩ ∧ lo ≤ b ∧ b < hi) ∧ Row TV 5 w b o l FE ∧ FE.Nodup ∧ ∀ f ∈ FE, lo ≤ f ∧ f < hi ∧ Unf w f := by
  obtain ⟨F, ⟨h1, h2, h3, h4⟩, hn, hF⟩ := h
  by_cases hl : l = []
  · subst hl
    exact ⟨0, 0, [], fun h => absurd rfl h, rfl, by simp, by simp⟩
  · obtain ⟨b, o, F', ha, rfl, hr⟩ := h4 hl
    exact ⟨b, o, F', fun _ => ⟨ha, (hF b (by simp)).1, (hF b (by simp)).2.1⟩, TR.row.1 hr, (List.nodup_cons.1 hn).2, fun f hf => hF f (by simp [hf])⟩
theorem pair_new {w : World} {t u : T} {a a' : Option Addr} {cap cap' : Nat} {Ga Gb : List Nat} (e : TypeId) (h : TL w a cap t.l Ga) (h' : TL w a' cap' u.l Gb) (hwf : Wf t) (hwf' : Wf u) (hG : ∀ f ∈ Ga ++ Gb, f < w.heap.size) :
    Row TV 5 (w.alloc (.cells #[Value.int IntKind.i64 t.k, Value.int IntKind.i64 t.n, Value.int IntKind.i64 t.x, Value.string t.s, Value.slice a t.l.length cap, Value.int IntKind.i64 u.k, Value.int IntKind.i64 u.n, Value.int IntKind.i64 u.x, Value.string u.s, Value.slice a' u.l.length cap'] e)) w.heap.size 0 [t, u] (Ga ++ Gb) := by
  have hI : Is (w.alloc (.cells #[Value.int IntKind.i64 t.k, Value.int IntKind.i64 t.n, Value.int IntKind.i64 t.x, Value.string t.s, Value.slice a t.l.length cap, Value.int IntKind.i64 u.k, Value.int IntKind.i64 u.n, Value.int IntKind.i64 u.x, Value.string u.s, Value.slice a' u.l.length cap'] e)) w.heap.size e #[Value.int IntKind.i64 t.k, Value.int IntKind.i64 t.n, Value.int IntKind.i64 t.x, Value.string t.s, Value.slice a t.l.length cap, Value.int IntKind.i64 u.k, Value.int IntKind.i64 u.n, Value.int IntKind.i64 u.x, Value.string u.s, Value.slice a' u.l.length cap'] := Is.new _ _ _
  have hag : ∀ f, f < w.heap.size → (w.alloc (.cells #[Value.int IntKind.i64 t.k, Value.int IntKind.i64 t.n, Value.int IntKind.i64 t.x, Value.string t.s, Value.slice a t.l.length cap, Value.int IntKind.i64 u.k, Value.int IntKind.i64 u.n, Value.int IntKind.i64 u.x, Value.string u.s, Value.slice a' u.l.length cap'] e)).heap[f]? = w.heap[f]? := fun f hf => (below1 w _).block f hf
  refine ⟨Ga, Gb, rfl, ?_, Gb, [], by simp, ?_, rfl⟩
  · rw [← T.eta t, TV.iff]
    exact ⟨hI.cell 0 rfl, hI.cell 1 rfl, hI.cell 2 rfl, hI.cell 3 rfl, hwf.1, hwf.2.1, hwf.2.2.1, hwf.2.2.2, a, cap, hI.cell 4 rfl, h.agree (fun f hf => hag f (hG f (by simp [hf])))⟩
  · rw [← T.eta u, TV.iff]
    exact ⟨hI.cell 5 rfl, hI.cell 6 rfl, hI.cell 7 rfl, hI.cell 8 rfl, hwf'.1, hwf'.2.1, hwf'.2.2.1, hwf'.2.2.2, a', cap', hI.cell 9 rfl, h'.agree (fun f hf => hag f (hG f (by simp [hf])))⟩
set_option maxHeartbeats 2000000 in
theorem impl_lastPairs (t : T) (a : Option Addr) (cap lo hi : Nat) (w : World) (ho : Own w lo hi a cap t.l) (hwf : Wf t) (hhi : hi ≤ w.heap.size) (hlo : lo ≤ hi) (hct : T.count t ≤ 1073741824) :
    Calls Tryz.prog 138 #[.agg (cV t a cap)] w fun e w' => ∃ a' cap', e = .returned (.agg (cV (lastT t) a' cap')) ∧ Own w' lo w'.heap.size a' cap' (lastT t).l ∧ Below w.heap.size w w' := by
  have hr := ho.read
  obtain ⟨hl1, hl2⟩ := hr.len
  have hlc : t.l.length ≤ 1073741824 := by have := T.length_le_countL t.l; cases t; simp only [T.count, T.l] at *; omega
  go_enter Tryz.func138, Tryz.ntmps138
  go_wp2_with fail
  generalize hW : (w.alloc (Obj.cells (cV t a cap) 26)).alloc (Obj.cells zV 26) = W0
  have q1 : Is W0 w.heap.size 26 (cV t a cap) := by subst hW; exact (Is.new _ _ _).alloc _
  have q2 : Is W0 (w.heap.size + 1) 26 zV := by subst hW; exact Is.new2 _ _ _ _
  have H0 := Lib.hid (show Below w.heap.size w W0 from by subst hW; exact below2 _ _ _)
  have hs0 : W0.heap.size = w.heap.size + 2 := by subst hW; simp
  clear hW
  have HO := Lib.hid (ho.below H0.out hhi); clear ho
  refine (impl_isPaired t a cap W0 hlc).mono ?_
  rintro e w2 ⟨rfl, hb2⟩
  have hs2 := hb2.size
  have p1 := q1.below hb2 (by omega)
  have p2 := q2.below hb2 (by omega)
  have f1 := fun i => p1.frozen i
  have f2 := fun i => p2.frozen i
  obtain ⟨r0, r1, r2, r3, r4⟩ := p1.cells5
  obtain ⟨o0, o1, o2, o3, o4⟩ := p2.cells5
  have l1 : w.heap.size < w2.heap.size := by omega
  have l2 : w.heap.size + 1 < w2.heap.size := by omega
  have HO2 := Lib.hid (HO.out.below hb2 (by omega))
  have H2 := Lib.hid (H0.out.trans (hb2.mono (by omega))); clear hb2
  cases hp : pairedB t with
  | false =>
    have HP := Lib.hid (lastT_no hp); clear hp
    go_wp2_with fail
    obtain ⟨e0, e1, e2, e3, e4, hbel, hold, hsz⟩ := out5 p2.blk (.int .i64 t.k) (.int .i64 t.n) (.int .i64 t.x) (.string t.s) (.slice a t.l.length cap) w.heap.size (by omega)
    refine bodyPost_ret (v := .agg (cV t a cap)) (by simp [results, Tryz.results138, go_sem, e0, e1, e2, e3, e4]) rfl ⟨a, cap, by rw [HP.out], ?_, H2.out.trans hbel⟩
    rw [hsz, HP.out]
    exact (HO2.out.agree (fun f h1 h2 => hold f (by omega))).more (Nat.le_refl _) (by omega)
  | true =>
    have HP := Lib.hid (lastT_yes hp)
    have hev : t.l.length % 2 = 0 := by unfold pairedB at hp; simp at hp; exact hp.2
    clear hp
    go_wp2_with fail
    obtain ⟨b, o, FE, hab, hrow, hnd, hFE⟩ := HO2.out.rows
    have HEV := Lib.hid hev; clear hev
    have h0 := AppL.empty (E := TV) (n := 5) (e := 26) w2 w2.heap.size (Nat.le_refl _)
    generalize hW : w2.alloc (Obj.cells #[] 26) = W1 at h0 ⊢
    have hs1 : W1.heap.size = w2.heap.size + 1 := by subst hW; simp
    have H1 := Lib.hid (show Below w2.heap.size w2 W1 from by subst hW; exact below1 _ _)
    clear hW
    have HRow := Lib.hid hrow; clear hrow
    have HND := Lib.hid hnd; clear hnd
    have HFE := Lib.hid hFE; clear hFE
    go_loopw [3, 4] (fun q iv wr => ∃ (i p : Nat) (ar : Option Addr) (cr : Nat) (Fk : List Nat), i ≤ t.l.length ∧ iv = .int .i64 i ∧ Hid (i = 2 * p) ∧ q = .slice ar (keepN t.l p).length cr ∧ AppL TV 5 26 wr w2.heap.size ar cr (keepN t.l p) Fk ∧ KpO w2 b o t.l FE i Fk ∧ Below w2.heap.size w2 wr) (fun _ iv _ => t.l.length - (intOf iv).toNat)
    case atStart => exact ⟨0, 0, _, _, [], Nat.zero_le _, rfl, rfl, rfl, h0, KpO.start HRow.out, H1.out⟩
    case round =>
      obtain ⟨i, p, ar, cr, Fk, hi', rfl, HI, rfl, happ, hkp, hb⟩ := hrel
      have hbs := hb.size
      have x1 := p1.below hb l1
      have x2 := p2.below hb l2
      have g1 := fun i => x1.frozen i
      have g2 := fun i => x2.frozen i
      obtain ⟨c0, c1, c2, c3, c4⟩ := x1.cells5
      obtain ⟨d0, d1, d2, d3, d4⟩ := x2.cells5
      have m1 : w.heap.size < wr.heap.size := by omega
      have m2 : w.heap.size + 1 < wr.heap.size := by omega
      have hlen := keepN_len t.l p
      by_cases hlt : i < t.l.length
      · have hlt2 : i + 1 < t.l.length := by have := HI.out; have := HEV.out; omega
        obtain ⟨ha, hlob, hbhi⟩ := hab (by rintro e; rw [e] at hlt; simp at hlt)
        subst ha
        have hrw := (HO2.out.below hb (by omega)).read
        obtain ⟨Ga, Gb, tva, tvb, hGs, hGn, hk1, hk2⟩ := hkp.next hlt2 HND.out
        have HA := Lib.hid happ; clear happ
        have HK1 := Lib.hid hk1; clear hk1 hkp
        have HK2 := Lib.hid hk2; clear hk2
        go_wp2_with fail
        refine (impl_last t.l i _ cap hi wr hrw (by omega) hlt HEV.out (by have := HI.out; omega) hlc).mono ?_
        rintro e w3 ⟨rfl, hb3⟩
        have hs3 := hb3.size
        have HB3 := Lib.hid (hb.trans (hb3.mono hbs))
        have HA3 := Lib.hid (HA.out.agree TV.elem (fun f hf => hb3.block f hf) (by omega))
        have y1 := x1.below hb3 m1
        have y2 := x2.below hb3 m2
        obtain ⟨e0, e1, e2, e3, e4⟩ := y1.cells5
        have n1 : w.heap.size < w2.heap.size := l1
        cases hnm : hasNm t.l[i] (t.l.drop (i + 2)) with
        | true =>
          have HKN := Lib.hid (keepN_succ_no t.l p i HI.out hlt hnm); clear hnm
          clear hb3
          go_wp2_with fail
          go_roundw
          case rel => exact ⟨i + 2, p + 1, ar, cr, Fk, by omega, by go_num, by have := HI.out; show _ = _; omega, by rw [HKN.out], by rw [HKN.out]; exact HA3.out, HK1.out, HB3.out⟩
          case measure => simp [intOf]; omega
        | false =>
          have HKN := Lib.hid (keepN_succ_yes t.l p i HI.out hlt hlt2 hnm); clear hnm
          have hblk : ∀ f, f < w2.heap.size → w3.heap[f]? = w2.heap[f]? := fun f hf => HB3.out.block f hf
          have hva := tva.agree (w' := w3) _ (Cells.of_block (hblk b (by omega)) _ _) (fun f hf => hblk f (by have := (HFE.out f (hGs f (by simp [hf]))).2.1; omega))
          have hvb := tvb.agree (w' := w3) _ (Cells.of_block (hblk b (by omega)) _ _) (fun f hf => hblk f (by have := (HFE.out f (hGs f (by simp [hf]))).2.1; omega))
          have HGL := Lib.hid (show ∀ f ∈ Ga ++ Gb, f < w2.heap.size from fun f hf => by have := (HFE.out f (hGs f hf)).2.1; omega)
          rw [← T.eta t.l[i], TV.iff] at hva
          rw [← T.eta t.l[i + 1], TV.iff] at hvb
          obtain ⟨u0, u1, u2, u3, u4, u5, u6, u7, aa, ca, u8, hta⟩ := hva
          obtain ⟨v0, v1, v2, v3, v4, v5, v6, v7, ab, cb, v8, htb⟩ := hvb
          have HTA := Lib.hid hta; clear hta
          have HTB := Lib.hid htb; clear htb
          have HWA := Lib.hid (show Wf t.l[i] from ⟨u4, u5, u6, u7⟩)
          have HWB := Lib.hid (show Wf t.l[i + 1] from ⟨v4, v5, v6, v7⟩)
          have hbw : b < w2.heap.size := by omega
          have hw1 : IntKind.i64.wrap ((i : Int) + 1) = (i : Int) + 1 := wrap_i64O _ (by omega) (by omega)
          have hcond : 0 ≤ (i : Int) + 1 ∧ (i : Int) + 1 < t.l.length := by omega
          have htn : ((i : Int) + 1).toNat = i + 1 := by omega
          clear u4 u5 u6 u7 v4 v5 v6 v7 tva tvb hblk
          go_wp2_with fail
          refine wp_region_held_drew (S := fun w' => (∀ b o, b < w2.heap.size → w'.cell? ⟨b, o, none⟩ = w3.cell? ⟨b, o, none⟩) ∧ Below (w2.heap.size) w3 w') (by kernel_rfl) (by first | exact ⟨fun _ _ _ => rfl, (Below.refl _ _).drew⟩ | exact keep_step (by assumption) (Below.drew (Below.refl _ _)) (Nat.le_refl _) | exact keep_step (by assumption) (by assumption) (by first | omega | ((try simp only [World.size_drew, size_alloc]); omega) | (have := (‹(_ ∧ Below (w2.heap.size) w3 _)›).2.size; (try simp only [World.size_drew, size_alloc] at this ⊢); omega))) (fun hHeld => ?_)
          refine wpAnyH_take (i := 0) (oi := ⟨some 21, _, _, _, _, _⟩) (v := ?_) rfl (by kernel_rfl) (by kernel_rfl) (by kernel_rfl) (fun _ _ _ h => h) (Or.inl ⟨by rfl, ?_⟩) (by assumption) ?_
          rotate_left 1
          · (intro w hSw; (try dsimp only at hSw); go_simp; (try simp only [hw1, if_pos hcond, htn]); try (with_reducible rfl))
          try simp only [Act.put, List.setIfInBounds_toArray, List.set_cons_zero, List.set_cons_succ]
          refine wpAnyH_take (i := 1) (oi := ⟨some 22, _, _, _, _, _⟩) (v := ?_) rfl (by kernel_rfl) (by kernel_rfl) (by kernel_rfl) (fun _ _ _ h => h) (Or.inl ⟨by rfl, ?_⟩) (by assumption) ?_
          rotate_left 1
          · (intro w hSw; (try dsimp only at hSw); go_simp; (try simp only [hw1, if_pos hcond, htn]); try (with_reducible rfl))
          try simp only [Act.put, List.setIfInBounds_toArray, List.set_cons_zero, List.set_cons_succ]
          refine wpAnyH_take (i := 2) (oi := ⟨some 23, _, _, _, _, _⟩) (v := ?_) rfl (by kernel_rfl) (by kernel_rfl) (by kernel_rfl) (fun _ _ _ h => h) (Or.inl ⟨by rfl, ?_⟩) (by assumption) ?_
          rotate_left 1
          · (intro w hSw; (try dsimp only at hSw); go_simp; (try simp only [hw1, if_pos hcond, htn]); try (with_reducible rfl))
          try simp only [Act.put, List.setIfInBounds_toArray, List.set_cons_zero, List.set_cons_succ]
          refine wpAnyH_take (i := 3) (oi := ⟨some 24, _, _, _, _, _⟩) (v := ?_) rfl (by kernel_rfl) (by kernel_rfl) (by kernel_rfl) (fun _ _ _ h => h) (Or.inl ⟨by rfl, ?_⟩) (by assumption) ?_
          rotate_left 1
          · (intro w hSw; (try dsimp only at hSw); go_simp; (try simp only [hw1, if_pos hcond, htn]); try (with_reducible rfl))
          try simp only [Act.put, List.setIfInBounds_toArray, List.set_cons_zero, List.set_cons_succ]
          refine wpAnyH_take (i := 4) (oi := ⟨some 25, _, _, _, _, _⟩) (v := ?_) rfl (by kernel_rfl) (by kernel_rfl) (by kernel_rfl) (fun _ _ _ h => h) (Or.inl ⟨by rfl, ?_⟩) (by assumption) ?_
          rotate_left 1
          · (intro w hSw; (try dsimp only at hSw); go_simp; (try simp only [hw1, if_pos hcond, htn]); try (with_reducible rfl))
          try simp only [Act.put, List.setIfInBounds_toArray, List.set_cons_zero, List.set_cons_succ]
          refine wpAnyH_take (i := 5) (oi := ⟨some 26, _, _, _, _, _⟩) (v := ?_) rfl (by kernel_rfl) (by kernel_rfl) (by kernel_rfl) (fun _ _ _ h => h) (Or.inl ⟨by rfl, ?_⟩) (by assumption) ?_
          rotate_left 1
          · (intro w hSw; (try dsimp only at hSw); go_simp; (try simp only [hw1, if_pos hcond, htn]); try (with_reducible rfl))
          try simp only [Act.put, List.setIfInBounds_toArray, List.set_cons_zero, List.set_cons_succ]
          refine wpAnyH_take (i := 6) (oi := ⟨some 27, _, _, _, _, _⟩) (v := ?_) rfl (by kernel_rfl) (by kernel_rfl) (by kernel_rfl) (fun _ _ _ h => h) (Or.inl ⟨by rfl, ?_⟩) (by assumption) ?_
          rotate_left 1
          · (intro w hSw; (try dsimp only at hSw); go_simp; (try simp only [hw1, if_pos hcond, htn]); try (with_reducible rfl))
          try simp only [Act.put, List.setIfInBounds_toArray, List.set_cons_zero, List.set_cons_succ]
          refine wpAnyH_take (i := 7) (oi := ⟨some 28, _, _, _, _, _⟩) (v := ?_) rfl (by kernel_rfl) (by kernel_rfl) (by kernel_rfl) (fun _ _ _ h => h) (Or.inl ⟨by rfl, ?_⟩) (by assumption) ?_
          rotate_left 1
          · (intro w hSw; (try dsimp only at hSw); go_simp; (try simp only [hw1, if_pos hcond, htn]); try (with_reducible rfl))
          try simp only [Act.put, List.setIfInBounds_toArray, List.set_cons_zero, List.set_cons_succ]
          refine wpAnyH_take (i := 8) (oi := ⟨some 29, _, _, _, _, _⟩) (v := ?_) rfl (by kernel_rfl) (by kernel_rfl) (by kernel_rfl) (fun _ _ _ h => h) (Or.inl ⟨by rfl, ?_⟩) (by assumption) ?_
          rotate_left 1
          · (intro w hSw; (try dsimp only at hSw); go_simp; (try simp only [hw1, if_pos hcond, htn]); try (with_reducible rfl))
          try simp only [Act.put, List.setIfInBounds_toArray, List.set_cons_zero, List.set_cons_succ]
          refine wpAnyH_take (i := 9) (oi := ⟨some 30, _, _, _, _, _⟩) (v := ?_) rfl (by kernel_rfl) (by kernel_rfl) (by kernel_rfl) (fun _ _ _ h => h) (Or.inl ⟨by rfl, ?_⟩) (by assumption) ?_
          rotate_left 1
          · (intro w hSw; (try dsimp only at hSw); go_simp; (try simp only [hw1, if_pos hcond, htn]); try (with_reducible rfl))
          try simp only [Act.put, List.setIfInBounds_toArray, List.set_cons_zero, List.set_cons_succ]
          refine wpAnyH_take (i := 10) (oi := ⟨some 31, _, _, _, _, _⟩) (v := ?_) rfl (by kernel_rfl) (by kernel_rfl) (by kernel_rfl) (fun _ _ _ h => h) (Or.inl ⟨by rfl, ?_⟩) (by assumption) ?_
          rotate_left 1
          · (intro w hSw; (try dsimp only at hSw); go_simp; (try simp only [hw1, if_pos hcond, htn]); try (with_reducible rfl))
          try simp only [Act.put, List.setIfInBounds_toArray, List.set_cons_zero, List.set_cons_succ]
          refine wpAnyH_take (i := 11) (oi := ⟨some 32, _, _, _, _, _⟩) (v := ?_) rfl (by kernel_rfl) (by kernel_rfl) (by kernel_rfl) (fun _ _ _ h => h) (Or.inl ⟨by rfl, ?_⟩) (by assumption) ?_
          rotate_left 1
          · (intro w hSw; (try dsimp only at hSw); go_simp; (try simp only [hw1, if_pos hcond, htn]); try (with_reducible rfl))
          try simp only [Act.put, List.setIfInBounds_toArray, List.set_cons_zero, List.set_cons_succ]
          refine wpAnyH_ready (rs := [12]) (by kernel_rfl) (by simp) ?_
          refine AllReadyH.cons (o := ⟨some 33, _, _, _, _, _⟩) rfl (fun K hK => ?_) AllReadyH.nil
          go_simp
          go_wp2_with fail
          refine hK.out _ _ (by first | (with_reducible exact keep_step (by assumption) (below1 _ _) (by first | omega | ((try simp only [World.size_drew, size_alloc]); omega) | (have := (‹(_ ∧ Below (w2.heap.size) w3 _)›).2.size; (try simp only [World.size_drew, size_alloc] at this ⊢); omega))) | (exact keep_step (by assumption) (below1 _ _) (by first | omega | ((try simp only [World.size_drew, size_alloc]); omega) | (have := (‹(_ ∧ Below (w2.heap.size) w3 _)›).2.size; (try simp only [World.size_drew, size_alloc] at this ⊢); omega)))) (fun hHeld => ?_)
          clear hK K
          try simp only [Act.put, List.setIfInBounds_toArray, List.set_cons_zero, List.set_cons_succ]
          refine wpAnyH_ready (rs := [13]) (by kernel_rfl) (by simp) ?_
          refine AllReadyH.cons (o := ⟨some 34, _, _, _, _, _⟩) rfl (fun K hK => ?_) AllReadyH.nil
          focus (((refine step_appL TV.elem rfl _ _ 24 rfl (.agg zV) 64 Tryz.underlying24 info_Val rfl w2.heap.size ar cr (keepN t.l p) Fk rfl (HA3.out.agree TV.elem (fun f hf => (below1 w3.drew _).block f hf) (by omega)) (by simp; omega) w3.heap.size 0 2 2 [t.l[i], t.l[i + 1]] (Ga ++ Gb) rfl rfl (pair_new (w := w3.drew) 26 (HTA.out.agree (fun _ _ => rfl)) (HTB.out.agree (fun _ _ => rfl)) HWA.out HWB.out (fun f hf => by have := HGL.out f hf; simp only [World.size_drew]; omega)) HGL.out (by omega) (by have := HI.out; unfold maxLen; omega) (by have := HI.out; omega) ?_; intro ar2 cr2 w4 happ4 hb4)); refine hK.out _ _ (by first | (with_reducible exact keep_step (by assumption) (by assumption) (by first | omega | ((try simp only [World.size_drew, size_alloc]); omega) | (have := (‹(_ ∧ Below (w2.heap.size) w3 _)›).2.size; (try simp only [World.size_drew, size_alloc] at this ⊢); omega))) | first | exact ⟨fun _ _ _ => rfl, (Below.refl _ _).drew⟩ | exact keep_step (by assumption) (Below.drew (Below.refl _ _)) (Nat.le_refl _) | exact keep_step (by assumption) (by assumption) (by first | omega | ((try simp only [World.size_drew, size_alloc]); omega) | (have := (‹(_ ∧ Below (w2.heap.size) w3 _)›).2.size; (try simp only [World.size_drew, size_alloc] at this ⊢); omega))) (fun hHeld => ?_); clear hK K; try simp only [Act.put, List.setIfInBounds_toArray, List.set_cons_zero, List.set_cons_succ])
          refine wpAnyH_take (i := 14) (oi := ⟨some 3, _, _, _, _, _⟩) (v := ?_) rfl (by kernel_rfl) (by kernel_rfl) (by kernel_rfl) (fun _ _ _ h => h) (Or.inl ⟨by rfl, ?_⟩) (by assumption) ?_
          rotate_left 1
          · (intro w hSw; (try dsimp only at hSw); go_simp; (try simp only [hw1, if_pos hcond, htn]); try (with_reducible rfl))
          try simp only [Act.put, List.setIfInBounds_toArray, List.set_cons_zero, List.set_cons_succ]
          refine wpAnyH_done (by kernel_rfl) ?_ _
          have HB4 := Lib.hid (HB3.out.trans ((((Below.refl w2.heap.size w3).drew).trans ((below1 w3.drew (.cells #[Value.int IntKind.i64 t.l[i].k, Value.int IntKind.i64 t.l[i].n, Value.int IntKind.i64 t.l[i].x, Value.string t.l[i].s, Value.slice aa t.l[i].l.length ca, Value.int IntKind.i64 t.l[i + 1].k, Value.int IntKind.i64 t.l[i + 1].n, Value.int IntKind.i64 t.l[i + 1].x, Value.string t.l[i + 1].s, Value.slice ab t.l[i + 1].l.length cb] 26)).mono (by simp only [World.size_drew]; omega))).trans hb4))
          clear hb4 hb3
          go_wp2_with fail
          go_roundw
          case rel => exact ⟨i + 2, p + 1, ar2, cr2, Fk ++ (Ga ++ Gb), by omega, by go_num, by have := HI.out; show _ = _; omega, by rw [HKN.out, List.length_append]; rfl, by rw [HKN.out]; exact happ4, HK2.out, HB4.out⟩
          case measure => simp [intOf]; omega
      · have hjj : t.l.length = i := by omega
        have HLP := Lib.hid (show keepN t.l p = lastP t.l from by unfold lastP; rw [show t.l.length / 2 = p from by have := HI.out; omega]); clear hjj
        have HAP := Lib.hid happ; clear happ
        have HKP := Lib.hid hkp.sub; clear hkp
        go_wp2_with fail
        have hk : Blk (wr.setCell ⟨w.heap.size, 4, none⟩ (.slice ar (keepN t.l p).length cr)) (w.heap.size + 1) 26 5 := x2.blk.agree (heap_miss _ _ _ _ (by omega) _)
        obtain ⟨e0, e1, e2, e3, e4, hbel, hold, hsz⟩ := out5 hk (.int .i64 t.k) (.int .i64 t.n) (.int .i64 t.x) (.string t.s) (.slice ar (keepN t.l p).length cr) w.heap.size (by omega)
        have hfar : ∀ f, f ≠ w.heap.size → f ≠ w.heap.size + 1 → (((((((wr.setCell ⟨w.heap.size, 4, none⟩ (.slice ar (keepN t.l p).length cr)).setCell ⟨w.heap.size + 1, 0, none⟩ (.int .i64 t.k)).setCell ⟨w.heap.size + 1, 1, none⟩ (.int .i64 t.n)).setCell ⟨w.heap.size + 1, 2, none⟩ (.int .i64 t.x)).setCell ⟨w.heap.size + 1, 3, none⟩ (.string t.s)).setCell ⟨w.heap.size + 1, 4, none⟩ (.slice ar (keepN t.l p).length cr))).heap[f]? = wr.heap[f]? := fun f h1 h2 => (hold f h2).trans (heap_miss _ _ _ _ h1 _)
        refine bodyPost_ret (v := .agg (cV (.mk t.k t.n t.x t.s (keepN t.l p)) ar cr)) (by simp [results, Tryz.results138, go_sem, e0, e1, e2, e3, e4, T.k_mk, T.n_mk, T.x_mk, T.s_mk, T.l_mk]) rfl ⟨ar, cr, by rw [HP.out, HLP.out], ?_, (H2.out.trans (hb.mono (by omega))).trans ((Below.setCell (Below.refl _ _) (p := ⟨w.heap.size, 4, none⟩) (Nat.le_refl _) _).trans hbel)⟩
        rw [HP.out, T.l_mk, ← HLP.out]
        refine Own.ow.2 ((HAP.out.agree2 TV.elem (fun f h1 h2 => hfar f (by omega) (by omega)) (fun f hf => hfar f (by have := (HFE.out f (HKP.out.1 f hf)).2.1; omega) (by have := (HFE.out f (HKP.out.1 f hf)).2.1; omega))).own HKP.out.2 (by omega) (fun f hf => ⟨(HFE.out f (HKP.out.1 f hf)).1, ?_⟩))
        have hf3 := HFE.out f (HKP.out.1 f hf)
        exact (hf3.2.2.agree (hb.block f (by omega))).agree (hfar f (by omega) (by omega))
theorem keepN_count (l : List T) (p : Nat) : 2 * p ≤ l.length → T.countL (keepN l p) ≤ T.countL (l.take (2 * p)) := by
  induction p with
  | zero => intro _; simp [keepN, T.countL]
  | succ p ih =>
    intro h
    have h1 := T.countL_take_succ l (2 * p) (by omega)
    have h2 := T.countL_take_succ l (2 * p + 1) (by omega)
    rw [show 2 * (p + 1) = 2 * p + 1 + 1 from by omega, h2, h1]
    have := ih (by omega)
    cases hn : hasNm l[2 * p] (l.drop (2 * p + 2)) with
    | true => rw [keepN_succ_no l p (2 * p) rfl (by omega) hn]; omega
    | false =>
      rw [keepN_succ_yes l p (2 * p) rfl (by omega) (by omega) hn, T.countL_append]
      simp only [T.countL]; omega
theorem lastP_count (l : List T) : T.countL (lastP l) ≤ T.countL l := Nat.le_trans (keepN_count l _ (by omega)) (T.countL_take_le l _)
theorem onceT_count : ∀ t : T, T.count (onceT t) ≤ T.count t := by
  intro t
  induction t using T.ind with
  | h k n x s l ih =>
    have key : ∀ r : List T, (∀ u ∈ r, u ∈ l) → T.countL (onceTs r) ≤ T.countL r := by
      intro r
      induction r with
      | nil => intro _; simp [onceTs, T.countL]
      | cons u r ihr =>
        intro hm
        simp only [onceTs, T.countL]
        have := ih u (hm u (by simp))
        have := ihr (fun v hv => hm v (by simp [hv]))
        omega
    have h1 := key l (fun _ h => h)
    rw [onceT]
    simp only [T.count]
    split
    · have := lastP_count (onceTs l); omega
    · omega
theorem onceTs_count (l : List T) : T.countL (onceTs l) ≤ T.countL l := by
  induction l with
  | nil => simp [onceTs, T.countL]
  | cons u r ih => simp only [onceTs, T.countL]; have := onceT_count u; omega
theorem onceT_eq (k n x : Int) (s : ByteArray) (l : List T) : onceT (.mk k n x s l) = lastT (.mk k n x s (onceTs l)) := by
  rw [onceT]
  unfold lastT
  simp only [T.k_mk, T.n_mk, T.x_mk, T.s_mk, T.l_mk, onceTs_length]
  split <;> rfl
theorem onceT_wf {t : T} (h : Wf t) : Wf (onceT t) := by
  cases t; rw [onceT]; exact h
section
variable {e : TypeId}
end
end Go.Proofs.YtggdenkmohnijaaGreatDoor
