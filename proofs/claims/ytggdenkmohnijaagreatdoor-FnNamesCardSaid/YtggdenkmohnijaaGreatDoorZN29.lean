/- Texts of this proof, merged: FitsT, NearP, FltN, Div, Div2, Near1, Near3, Near2, Near4, Half1, LeafP, TightP, Big3, Big4, Mark2, FitsK, AppT, Less, Tig1, Tig2, Tig3, Tig5, TigM, Tig6, Tig7, Less2, Pack1, Pack2, Pack3, Pack4, Tig8, FitsW, LeafQ. No condition beyond what each theorem states. -/
import Derived.Test.YtggdenkmohnijaaGreatDoorZN26
import Derived.Laws.BitsLemmas
import Derived.Lib.Mul64
import Derived.Shelf.Bits.Mul64
import Derived.Test.YtggdenkmohnijaaGreatDoorZN21
import Derived.Lib.Bytealg
import Derived.Lib.Bytes
import Derived.Lib.BytesEntry
import Derived.Laws.Externs
import Derived.Deep.RegionWith
set_option linter.unusedSimpArgs false
set_option linter.unnecessarySimpa false
namespace Go.Proofs.YtggdenkmohnijaaGreatDoor
open Go.ChangeShapes Go.WideShapes Go.ChangeAt Go.RowKit Go.Joins
set_option linter.unusedVariables false
set_option maxRecDepth 100000
def fitTB (t : T) : Bool := decide (t.k = 1 ∨ t.k = 2 ∨ t.k = 3 ∨ t.k = 6 ∨ t.k = 7 ∨ t.k = 9) || (decide (t.k = 10) && textNm t)
theorem fitTB_yes {t : T} (h : t.k = 1 ∨ t.k = 2 ∨ t.k = 3 ∨ t.k = 6 ∨ t.k = 7 ∨ t.k = 9) : fitTB t = true := by unfold fitTB; rw [decide_eq_true h]; rfl
theorem fitTB_map {t : T} (h : t.k = 10) : fitTB t = textNm t := by unfold fitTB; rw [decide_eq_true h, decide_eq_false (by omega)]; rfl
theorem fitTB_no {t : T} (h : ¬ (t.k = 1 ∨ t.k = 2 ∨ t.k = 3 ∨ t.k = 6 ∨ t.k = 7 ∨ t.k = 9)) (h2 : t.k ≠ 10) : fitTB t = false := by unfold fitTB; rw [decide_eq_false h, decide_eq_false h2]; rfl
set_option maxHeartbeats 1000000 in
theorem impl_fitT (t : T) (a : Option Addr) (cap B : Nat) (w : World) (hr : R w B a cap t.l) (hwf : Wf t) (hsz : T.sz t ≤ 1048576) (he : Env B w) (hB : B ≤ w.heap.size) :
    Calls Tryz.prog 193 #[.agg (cV t a cap)] w fun e w' => e = .returned (.bool (fitTB t)) ∧ Below w.heap.size w w' := by
  have hlc : t.l.length ≤ 1073741824 := by have := T.length_le_szL t.l; have := sz_list t; omega
  have HR := Lib.hid hr; clear hr
  obtain ⟨hk0, hk1⟩ := hwf.1
  have HT := Lib.hid (fun W (h : R W B a cap t.l) (hb : B ≤ W.heap.size) => impl_textNames t a cap B W h hb hlc)
  clear hwf he
  by_cases h : t.k = 1 ∨ t.k = 2 ∨ t.k = 3 ∨ t.k = 6 ∨ t.k = 7 ∨ t.k = 9
  · have HD := Lib.hid (fitTB_yes h)
    obtain ⟨k, n, x, s, l⟩ := t
    simp only [T.k, T.n, T.x, T.s, T.l, cV] at *
    obtain rfl | rfl | rfl | rfl | rfl | rfl := h
    all_goals
      go_enter Tryz.func193, Tryz.ntmps193
      go_wp2_with fail
      go_ret
      exact ⟨ret_b (by rw [HD.out]), below1 _ _⟩
  · by_cases h2 : t.k = 10
    · have HD := Lib.hid (fitTB_map h2)
      obtain ⟨k, n, x, s, l⟩ := t
      simp only [T.k, T.n, T.x, T.s, T.l, cV] at *
      subst h2
      go_enter Tryz.func193, Tryz.ntmps193
      go_wp2_with fail
      refine (HT.out _ (HR.out.below (below1 _ _) hB) (by simp; omega)).mono ?_
      rintro e w2 ⟨rfl, hb2⟩
      go_wp2_with fail
      go_ret
      exact ⟨ret_b (by rw [HD.out]), below_step (below1 _ _) hb2 (by simp)⟩
    · have HD := Lib.hid (fitTB_no h h2)
      obtain ⟨k, n, x, s, l⟩ := t
      simp only [T.k, T.n, T.x, T.s, T.l, cV] at *
      have e1 : ¬ k = 1 := by omega
      have e2 : ¬ k = 2 := by omega
      have e3 : ¬ k = 3 := by omega
      have e6 : ¬ k = 6 := by omega
      have e7 : ¬ k = 7 := by omega
      have e9 : ¬ k = 9 := by omega
      go_enter Tryz.func193, Tryz.ntmps193
      go_wp2_with fail
      all_goals
        go_ret
        exact ⟨ret_b (by rw [HD.out]; first | done | simp [h2]), below1 _ _⟩
set_option maxHeartbeats 2000000 in
theorem every_fitT (hp : ∀ t : T, ∀ (a : Option Addr) (cap B : Nat) (w : World), R w B a cap t.l → Wf t → T.sz t ≤ 1048576 → Env B w → B ≤ w.heap.size → Calls Tryz.prog 193 #[.agg (cV t a cap)] w fun e v => e = .returned (.bool (fitTB t)) ∧ Below w.heap.size w v) :
    ∀ t : T, ∀ (a : Option Addr) (cap B : Nat) (w : World), R w B a cap t.l → Wf t → T.sz t ≤ 1048576 → Env B w → B ≤ w.heap.size →
    Calls Tryz.prog 66 #[.agg (cV t a cap), .func (.func 193) #[] #[]] w fun e w' => e = .returned (.bool (allB fitTB t)) ∧ Below w.heap.size w w' := by
  have HP := Lib.hid hp; clear hp
  intro t
  induction t using T.ind with
  | h k n x s l ih =>
    intro a cap B w hr hwf hsz henv hB
    have IH := Lib.hid ih; clear ih
    have HPT := Lib.hid (fun W h1 h2 h3 h4 => HP.out (.mk k n x s l) a cap B W h1 hwf hsz h3 h4 : ∀ W, R W B a cap l → True → Env B W → B ≤ W.heap.size → _)
    have HALL := Lib.hid (allB_eq fitTB (.mk k n x s l))
    simp only [cV, T.k, T.n, T.x, T.s, T.l] at hr HPT ⊢
    rw [sz_of] at hsz
    obtain ⟨hlc, hcap⟩ := hr.len
    have HR := Lib.hid hr; clear hr
    have HE := Lib.hid henv; clear henv hwf
    have hmf : ∀ (fn : Fn) (first cap : Array Value) (w : World), (Instr.makeFunc fn first cap).run Tryz.prog w = .ok (.func fn first cap) w := fun _ _ _ _ => rfl
    go_enter Tryz.func66, Tryz.ntmps66
    go_wp2_with fail
    generalize hW : (w.alloc (Obj.cells #[Value.int IntKind.i64 k, Value.int IntKind.i64 n, Value.int IntKind.i64 x, Value.string s, Value.slice a l.length cap] 26)).alloc (Obj.cells #[.func (.func 193) #[] #[]] 33) = W0
    have q1 : Is W0 w.heap.size 26 #[Value.int IntKind.i64 k, Value.int IntKind.i64 n, Value.int IntKind.i64 x, Value.string s, Value.slice a l.length cap] := by subst hW; exact (Is.new _ _ _).alloc _
    have q2 : Is W0 (w.heap.size + 1) 33 #[.func (.func 193) #[] #[]] := by subst hW; exact Is.new2 _ _ _ _
    have H0 := Lib.hid (show Below w.heap.size w W0 from by subst hW; exact below2 _ _ _)
    have hs0 : W0.heap.size = w.heap.size + 2 := by subst hW; simp
    clear hW
    refine (HPT.out W0 (HR.out.below H0.out hB) trivial (HE.out.step (H0.out.mono hB)) (by omega)).mono ?_
    rintro e w2 ⟨rfl, hb2⟩
    have hs2 := hb2.size
    have p1 := q1.below hb2 (by omega)
    have p2 := q2.below hb2 (by omega)
    obtain ⟨r0, r1, r2, r3, r4⟩ := p1.cells5
    have l1 : w.heap.size < w2.heap.size := by omega
    have HB2 := Lib.hid (H0.out.trans (hb2.mono (by omega)))
    clear HPT
    cases hv : fitTB (.mk k n x s l) with
    | false =>
      have HD := Lib.hid (show allB fitTB (.mk k n x s l) = false from by rw [HALL.out, hv]; rfl)
      clear hv HALL
      go_wp2_with fail
      go_ret
      exact ⟨ret_b (by rw [HD.out]), HB2.out⟩
    | true =>
      have HD := Lib.hid (show allB fitTB (.mk k n x s l) = !(l.any fun x => !allB fitTB x) from by rw [HALL.out, hv]; simp only [T.l, Bool.true_and]; exact (any_not_all _ _).symm)
      clear hv HALL
      have H1 : ∀ t ∈ l, ∀ (a : Option Addr) (cap : Nat) (w' : World), Below w2.heap.size w2 w' → R w' B a cap t.l → Wf t → Calls Tryz.prog 119 #[.agg (cV t a cap), .pointer (some ⟨w.heap.size + 1, 0, none⟩)] w' fun e v => e = .returned (.bool (!allB fitTB t)) ∧ Below w'.heap.size w' v := by
        intro t ht a3 cap3 w' hb3 hr3 hwf3
        obtain ⟨i, hi, rfl⟩ := List.mem_iff_getElem.1 ht
        have hszi := T.sz_get l i hi
        have hs3 := hb3.size
        have t2 := p2.below hb3 (by omega)
        have c0 := t2.cell 0 rfl
        simp only [List.getElem_toArray, List.getElem_cons_zero] at c0
        have l2 : w.heap.size + 1 < w'.heap.size := by omega
        have HWF := Lib.hid hwf3; clear hwf3
        have HR3 := Lib.hid hr3; clear hr3
        have HB3 := Lib.hid (HB2.out.trans (hb3.mono (by omega)))
        clear hb3 p1 q1 q2 r0 r1 r2 r3 r4 ht
        go_enter Tryz.func119, Tryz.ntmps119
        go_wp2_with fail
        refine (IH.out l[i] (List.getElem_mem hi) a3 cap3 B _ (HR3.out.below (below1 _ _) (by omega)) HWF.out (by omega) (HE.out.step ((HB3.out.mono hB).trans ((below1 _ _).mono (by omega)))) (by simp; omega)).mono ?_
        rintro e w5 ⟨rfl, hb5⟩
        go_wp2_with fail
        go_ret
        exact ⟨rfl, below_step (below1 _ _) hb5 (by simp)⟩
      have cC := has_every_1 (fun x => !allB fitTB x) (w.heap.size + 1) l a cap B w2 (HR.out.below HB2.out hB) (by omega) H1
      have CC := Lib.hid cC; clear cC H1
      generalize (l.any fun x => !allB fitTB x) = r at *
      go_wp2_with fail
      refine CC.out.mono ?_
      rintro e w6 ⟨rfl, hb6⟩
      go_wp2_with fail
      go_ret
      exact ⟨ret_b (by rw [HD.out]), HB2.out.trans (hb6.mono (by omega))⟩
set_option maxHeartbeats 1000000 in
theorem impl_FitsText (t : T) (a : Option Addr) (cap B : Nat) (w : World) (hr : R w B a cap t.l) (hwf : Wf t) (hsz : T.sz t ≤ 1048576) (he : Env B w) (hB : B ≤ w.heap.size) :
    Calls Tryz.prog 134 #[.agg (cV t a cap)] w fun e w' => e = .returned (.bool (allB ownB t && allB fitTB t)) ∧ Below w.heap.size w w' := by
  have HR := Lib.hid hr; clear hr
  have HE := Lib.hid he; clear he
  have HWF := Lib.hid hwf; clear hwf
  have H0 := Lib.hid (below1 w (.cells (cV t a cap) 26))
  have q0 := Is.new w (cV t a cap) 26
  go_enter Tryz.func134, Tryz.ntmps134
  go_wp2_with fail
  refine (impl_ValOk t a cap B _ (HR.out.below H0.out hB) HWF.out hsz (HE.out.step (H0.out.mono hB)) (by simp; omega)).mono ?_
  rintro e w1 ⟨rfl, hb1⟩
  have HB1 := Lib.hid (below_step H0.out hb1 (by simp))
  have p1 := q0.below hb1 (by simp)
  obtain ⟨r0, r1, r2, r3, r4⟩ := p1.cells5
  have l1 : w.heap.size < w1.heap.size := by have := hb1.size; simp at this; omega
  clear hb1
  cases hv : allB ownB t with
  | false =>
    have HV := Lib.hid hv; clear hv
    go_wp2_with fail
    go_ret
    exact ⟨ret_b (by rw [HV.out]; rfl), HB1.out⟩
  | true =>
    have HV := Lib.hid hv; clear hv
    have HC := Lib.hid (every_fitT (fun t a cap B w h1 h2 h3 h4 h5 => impl_fitT t a cap B w h1 h2 h3 h4 h5) t a cap B w1 (HR.out.below HB1.out hB) HWF.out hsz (HE.out.step (HB1.out.mono hB)) (by omega))
    go_wp2_with fail
    refine HC.out.mono ?_
    rintro e w2 ⟨rfl, hb2⟩
    go_wp2_with fail
    go_ret
    exact ⟨ret_b (by rw [HV.out]; rfl), HB1.out.trans (hb2.mono HB1.out.size)⟩
def stripE : Nat → Int → Int → Int × Int
  | 0, m, e => (m, e)
  | k + 1, m, e => if m.tmod 2 = 0 then stripE k (m.tdiv 2) (e + 1) else (m, e)
def fltNewD (m e : Int) : (Int × Int) × Bool :=
  if ¬ ((-1000000000000000 ≤ m ∧ m ≤ 1000000000000000) ∧ (-100 ≤ e ∧ e ≤ 100)) then ((0, 0), false)
  else if m = 0 then ((0, 0), true)
  else if fltOk (stripE 64 m e).1 (stripE 64 m e).2 then (((stripE 64 m e).1, (stripE 64 m e).2), true) else ((0, 0), false)
theorem fltNewD_ok (m e : Int) : fltOk (fltNewD m e).1.1 (fltNewD m e).1.2 := by
  unfold fltNewD
  split
  · exact Or.inl ⟨rfl, rfl⟩
  split
  · exact Or.inl ⟨rfl, rfl⟩
  split
  · assumption
  · exact Or.inl ⟨rfl, rfl⟩
def aQ (n p j : Nat) : Nat := n * 2 ^ (16 - j) / (p * 2 ^ (j - 16))
def aR (n p j : Nat) : Nat := n * 2 ^ (16 - j) % (p * 2 ^ (j - 16))
def nearUp (q r d : Nat) : Nat := if d < 2 * r ∨ (2 * r = d ∧ q % 2 = 1) then q + 1 else q
def nearJ (n p : Nat) : Nat → Nat → Nat
  | 0, j => j
  | f + 1, j => if aQ n p j ≤ 65535 then j else nearJ n p f (j + 1)
def sgn (n : Int) : Int := if n < 0 then -1 else 1
def nearM (n p : Nat) : Nat := nearUp (aQ n p (nearJ n p 60 0)) (aR n p (nearJ n p 60 0)) (p * 2 ^ (nearJ n p 60 0 - 16))
def nearD (n x : Int) : (Int × Int) × Bool :=
  if ¬ decOk n x then ((0, 0), false) else fltNewD (sgn n * (nearM n.natAbs (10 ^ (-x).toNat) : Nat)) ((nearJ n.natAbs (10 ^ (-x).toNat) 60 0 : Nat) - 16 : Int)
theorem fltNewD_box (m e : Int) : (-65535 ≤ (fltNewD m e).1.1 ∧ (fltNewD m e).1.1 ≤ 65535) ∧ (-16 ≤ (fltNewD m e).1.2 ∧ (fltNewD m e).1.2 ≤ 46) := by
  have := fltOk_small (fltNewD_ok m e); omega
theorem nearD_box (n x : Int) : (-65535 ≤ (nearD n x).1.1 ∧ (nearD n x).1.1 ≤ 65535) ∧ (-16 ≤ (nearD n x).1.2 ∧ (nearD n x).1.2 ≤ 46) := by
  unfold nearD
  split
  · simp
  · exact fltNewD_box _ _
def exactD (n x : Int) : Bool := (nearD n x).2 && decide (fltDecD (nearD n x).1.1 (nearD n x).1.2 = (n, x))
def nearW (n x : Int) : T × Int := if (nearD n x).2 = true then (.mk 4 (nearD n x).1.1 (nearD n x).1.2 ⟨#[]⟩ [], if exactD n x = true then 1 else 2) else (.mk 1 0 0 ⟨#[]⟩ [], 3)
def leafW (way k n x : Int) (s : ByteArray) (l : List T) : T × Int :=
  if (k = 3 ∧ way = 4) ∨ (k = 6 ∧ 2 ≤ way ∧ way ≤ 4) then
    nearW n x
  else if k = 4 ∧ way = 1 then (numV (fltDecD n x), 1)
  else if k = 5 ∧ (way = 1 ∨ way = 4) then (.mk 1 0 0 ⟨#[]⟩ [], 4)
  else if k = 8 ∧ (way = 1 ∨ way = 4) then (.mk 7 0 0 (hexT s) [], 5)
  else (.mk k n x s l, 0)
def lT (way : Int) (t : T) : T := (leafW way t.k t.n t.x t.s t.l).1
def lN (way : Int) (t : T) : Int := (leafW way t.k t.n t.x t.s t.l).2
theorem numV_wf (d : Int × Int) (h1 : I64 d.1) (h2 : I64 d.2) : Wf (numV d) := by
  unfold numV
  split
  · exact ⟨⟨by simp [T.k], by simp [T.k]⟩, h1, ⟨by simp [T.x], by simp [T.x]⟩, by simp [T.s, ByteArray.size, maxLen]⟩
  · exact ⟨⟨by simp [T.k], by simp [T.k]⟩, h1, h2, by simp [T.s, ByteArray.size, maxLen]⟩
theorem numV_l (d : Int × Int) : (numV d).l = [] := by unfold numV; split <;> rfl
theorem hexT_sizeL (s : ByteArray) : (hexT s).size = 2 * s.size := by
  unfold hexT
  rw [strOfNums_size, hexL_len, ← Lib.size_eq]
theorem lT_wf (way : Int) {t : T} (h : Wf t) (hs : t.s.size ≤ 1048576) : Wf (lT way t) := by
  obtain ⟨k, n, x, s, l⟩ := t
  show Wf (leafW way k n x s l).1
  replace hs : s.size ≤ 1048576 := hs
  have hb := nearD_box n x
  have hf := fltDecD_box n x
  have h1 : Wf (.mk 1 0 0 ⟨#[]⟩ []) := ⟨⟨by simp [T.k], by simp [T.k]⟩, ⟨by simp [T.n], by simp [T.n]⟩, ⟨by simp [T.x], by simp [T.x]⟩, by simp [T.s, ByteArray.size, maxLen]⟩
  unfold leafW
  split
  · unfold nearW
    split
    · exact ⟨⟨by simp [T.k], by simp [T.k]⟩, ⟨by simp only [T.n]; omega, by simp only [T.n]; omega⟩, ⟨by simp only [T.x]; omega, by simp only [T.x]; omega⟩, by simp [T.s, ByteArray.size, maxLen]⟩
    · exact h1
  · split
    · exact numV_wf _ hf.1 ⟨by omega, by omega⟩
    · split
      · exact h1
      · split
        · exact ⟨⟨by simp [T.k], by simp [T.k]⟩, ⟨by simp [T.n], by simp [T.n]⟩, ⟨by simp [T.x], by simp [T.x]⟩, by simp only [T.s, hexT_sizeL]; unfold maxLen; omega⟩
        · exact h
theorem nearW_l (n x : Int) : (nearW n x).1.l = [] := by unfold nearW; split <;> rfl
theorem lT_l (way : Int) (t : T) : (lT way t).l = [] ∨ (lT way t).l = t.l := by
  obtain ⟨k, n, x, s, l⟩ := t
  show (leafW way k n x s l).1.l = [] ∨ (leafW way k n x s l).1.l = l
  unfold leafW
  split
  · exact Or.inl (nearW_l n x)
  · split
    · exact Or.inl (numV_l _)
    · split
      · exact Or.inl rfl
      · split
        · exact Or.inl rfl
        · exact Or.inr rfl
theorem AppL.less {α : Type} {E : World → Nat → Nat → α → List Nat → Prop} {n : Nat} {e : TypeId} {w : World} {rlo rlo' cap : Nat} {a : Option Addr} {l : List α} (h : AppL E n e w rlo a cap l []) (hl : rlo' ≤ rlo) : AppL E n e w rlo' a cap l [] := by
  rcases h with h | ⟨g, cur, h0, h1, h2, h3, h4, h5, h6, _⟩
  · exact Or.inl h
  · exact Or.inr ⟨g, cur, h0, Nat.le_trans hl h1, h2, h3, h4, h5, h6, by simp⟩
/- (Calls Tryz.prog 22) -/
section
variable {α : Type} {E : World → Nat → Nat → α → List Nat → Prop} {n : Nat} {e : TypeId}
theorem AppL.agreeB (hE : Elem E n) {w w' : World} {rlo cap : Nat} {a : Option Addr} {l : List α} (h : AppL E n e w rlo a cap l []) (hw : ∀ f, rlo ≤ f → f < w.heap.size → w'.heap[f]? = w.heap[f]?) : AppL E n e w' rlo a cap l [] := by
  rcases h with h | ⟨g, cur, ha, h1, h3, h4, h5, h6, h7, h8⟩
  · exact Or.inl h
  · have hg : g < w.heap.size := (Array.getElem?_eq_some_iff.1 h3).1
    exact Or.inr ⟨g, cur, ha, h1, (hw g h1 hg).trans h3, h4, h5, h6, h7.agree hE.loc l (Cells.of_block (hw g h1 hg) _ _) (fun f hf => by cases hf), h8⟩
end
def Pk (w : World) (g : Nat) (b : List Int) : Prop := ∃ (a : Option Addr) (cap : Nat), Is w g 52 #[.slice a b.length cap, .bool false, .bool false] ∧ AppL EByte 1 5 w (g + 1) a cap b []
theorem Pk.lt {w : World} {g : Nat} {b : List Int} (h : Pk w g b) : g < w.heap.size := by obtain ⟨_, _, h, _⟩ := h; exact h.lt
theorem Pk.below {w w' : World} {g : Nat} {b : List Int} (h : Pk w g b) (hb : Below w.heap.size w w') : Pk w' g b := by
  have hl := h.lt
  obtain ⟨a, cap, h1, h2⟩ := h
  exact ⟨a, cap, h1.below hb hl, h2.agree EByte.elem (fun f hf => hb.block f hf) (by omega)⟩
theorem Pk.stored {w : World} {g : Nat} {b b' : List Int} {a a' : Option Addr} {cap cap' : Nat} (h : Is w g 52 #[.slice a b.length cap, .bool false, .bool false]) (h2 : AppL EByte 1 5 w (g + 1) a' cap' b' []) : Pk (w.setCell ⟨g, 0, none⟩ (.slice a' b'.length cap')) g b' :=
  ⟨a', cap', h.set 0 _, h2.agreeB EByte.elem (fun f hf _ => heap_miss _ _ _ _ (by omega) _)⟩
theorem nil_bytes : (⟨#[]⟩ : ByteArray).toList = [] := by
  rw [ByteArray.toList]; unfold ByteArray.toList.loop; simp [ByteArray.size]
theorem decOk_zero : decOk 0 0 := Or.inl ⟨rfl, by decide, by decide⟩
theorem decNewD_ok (n : Int) (k : Nat) : decOk (decNewD n k).1.1 (decNewD n k).1.2 := by
  unfold decNewD
  split
  · exact decOk_zero
  split
  · exact decOk_zero
  split
  · assumption
  · exact decOk_zero
theorem flt_whole {m e : Int} (h : fltOk m e) (he : 0 ≤ e) : -1000000000000000 ≤ m * 2 ^ e.toNat ∧ m * 2 ^ e.toNat ≤ 1000000000000000 := by
  rcases h with ⟨rfl, rfl⟩ | ⟨_, ⟨h1, h2⟩, _, _, h30 | ⟨h46, hlo, hhi⟩⟩
  · simp
  · have h5 : 2 ^ e.toNat ≤ 1073741824 := Nat.le_trans (Nat.pow_le_pow_right (by omega) (show e.toNat ≤ 30 by omega)) (by decide)
    have h8 : (2 : Int) ^ e.toNat = ((2 ^ e.toNat : Nat) : Int) := by simp
    have h6 : ((2 : Int) ^ e.toNat) ≤ 1073741824 := by rw [h8]; omega
    have h7 : (0 : Int) ≤ (2 : Int) ^ e.toNat := Int.le_of_lt (Int.pow_pos (by decide))
    have a := Int.mul_le_mul_of_nonneg_right h1 h7
    have b := Int.mul_le_mul_of_nonneg_right h2 h7
    constructor <;> omega
  · by_cases h30 : e ≤ 30
    · have h5 : 2 ^ e.toNat ≤ 1073741824 := Nat.le_trans (Nat.pow_le_pow_right (by omega) (show e.toNat ≤ 30 by omega)) (by decide)
      have h8 : (2 : Int) ^ e.toNat = ((2 ^ e.toNat : Nat) : Int) := by simp
      have h6 : ((2 : Int) ^ e.toNat) ≤ 1073741824 := by rw [h8]; omega
      have h7 : (0 : Int) ≤ (2 : Int) ^ e.toNat := Int.le_of_lt (Int.pow_pos (by decide))
      have a := Int.mul_le_mul_of_nonneg_right h1 h7
      have b := Int.mul_le_mul_of_nonneg_right h2 h7
      constructor <;> omega
    · have e1 : e.toNat = (e - 30).toNat + 30 := by omega
      rw [e1, Int.pow_add, ← Int.mul_assoc]
      have e2 : (2 : Int) ^ 30 = 1073741824 := by decide
      rw [e2]
      constructor <;> omega
theorem fltDecD_ok (m e : Int) : decOk (fltDecD m e).1 (fltDecD m e).2 := by
  unfold fltDecD
  split
  · exact decOk_zero
  · rename_i h
    split
    · rename_i he
      have hb := flt_whole (Decidable.not_not.1 h) he
      rw [Go.IntWalk.wrap64_in _ ⟨by omega, by omega⟩]
      exact Or.inl ⟨rfl, hb.1, hb.2⟩
    · exact decNewD_ok _ _
theorem nearD_ok (n x : Int) : fltOk (nearD n x).1.1 (nearD n x).1.2 := by
  unfold nearD; split
  · exact Or.inl ⟨rfl, rfl⟩
  · exact fltNewD_ok _ _
theorem own_leaf (k n x : Int) (s : ByteArray) (h : ownQ k n x s 0) : allB ownB (.mk k n x s []) = true := by
  rw [allB_eq]
  simp only [T.l, List.all_nil, Bool.and_true]
  exact decide_eq_true h
theorem own_of {k n x : Int} {s : ByteArray} {l : List T} (h : allB ownB (.mk k n x s l) = true) : ownQ k n x s l.length := by
  rw [allB_eq, Bool.and_eq_true] at h
  exact of_decide_eq_true h.1
theorem own_null : ownQ 1 0 0 ⟨#[]⟩ 0 := (own1 _ _ _ _).2 ⟨nil_bytes, rfl, rfl, rfl⟩
theorem numV_own (d : Int × Int) (h : decOk d.1 d.2) : allB ownB (numV d) = true := by
  unfold numV
  rcases h with ⟨h0, h1, h2⟩ | ⟨h0, h1, h2, h3⟩
  · rw [if_pos h0]; exact own_leaf _ _ _ _ ((own3 _ _ _ _).2 ⟨nil_bytes, rfl, rfl, h1, h2⟩)
  · rw [if_neg h0]; exact own_leaf _ _ _ _ ((own6 _ _ _ _).2 ⟨nil_bytes, rfl, by omega, Or.inr ⟨h0, h1, h2, h3⟩⟩)
theorem valid_asc : ∀ l : List UInt8, (∀ b ∈ l, b.toNat < 128) → Lib.validD l = true := by
  intro l
  induction l with
  | nil => intro _; exact Lib.validD_nil
  | cons b r ih => intro h; rw [Lib.validD_cons b r (h b (by simp))]; exact ih (fun x hx => h x (by simp [hx]))
theorem hexD_asc (d : Int) : (UInt8.ofNat (hexD d).toNat).toNat < 128 ∨ 16 ≤ d ∨ d < 0 := by
  by_cases h : 0 ≤ d ∧ d < 16
  · left
    obtain ⟨u, rfl⟩ : ∃ u : Nat, d = u := ⟨d.toNat, by omega⟩
    have hu : u < 16 := by omega
    have key : ∀ v : Fin 16, (UInt8.ofNat (hexD ((v.val : Nat) : Int)).toNat).toNat < 128 := by decide
    exact key ⟨u, hu⟩
  · omega
theorem hexT_valid (s : ByteArray) : Lib.validD (hexT s).data.toList = true := by
  apply valid_asc
  unfold hexT strOfNums
  have key : ∀ l : List UInt8, ∀ b ∈ (hexL l).map (fun n => UInt8.ofNat n.toNat), b.toNat < 128 := by
    intro l
    induction l with
    | nil => simp [hexL]
    | cons x r ih =>
      intro b hb
      have hx := x.toNat_lt
      simp only [hexL, List.map_cons, List.mem_cons] at hb
      rcases hb with rfl | rfl | hb
      · have := hexD_asc ((x.toNat : Int) / 16); omega
      · have := hexD_asc ((x.toNat : Int) % 16); omega
      · exact ih b hb
  simpa using key s.data.toList
theorem nearW_own (n x : Int) : allB ownB (nearW n x).1 = true := by
  unfold nearW
  split
  · exact own_leaf _ _ _ _ ((own4 _ _ _ _).2 ⟨nil_bytes, rfl, nearD_ok n x⟩)
  · exact own_leaf _ _ _ _ own_null
theorem lT_own (way : Int) (t : T) (h : allB ownB t = true) : allB ownB (lT way t) = true := by
  obtain ⟨k, n, x, s, l⟩ := t
  show allB ownB (leafW way k n x s l).1 = true
  unfold leafW
  split
  · exact nearW_own n x
  split
  · exact numV_own _ (fltDecD_ok n x)
  split
  · exact own_leaf _ _ _ _ own_null
  split
  · exact own_leaf _ _ _ _ ((own7 _ _ _ _).2 ⟨rfl, rfl, rfl, hexT_valid s⟩)
  · exact h
end Go.Proofs.YtggdenkmohnijaaGreatDoor
