/- Contracts and lemmas for the proofs of this seat: WriL. No condition beyond those stated. -/
import Derived.Test.YtfbgmhjjdgglnaaDoorRows
import Derived.WalkKit
import Derived.ProofKit
import Derived.OpenShut
import Derived.Handy
import Derived.Lib.Hide
import Derived.Lib.SmallJoins
import Derived.Laws.BytesArg
import Derived.Deep.RegionHeld3
import Derived.Deep.AppendLies
import Derived.Deep.QuietTactic
import Derived.BigQuiet
import Derived.Lib.AppendStr
import Derived.Lib.ValidAsc
import Derived.Lib.ItoaLen
import Derived.Test.YtfbgmhjjdgglnaaDoorBase
import Derived.Test.YtfbgmhjjdgglnaaDoorGen
import Derived.Test.YtfbgmhjjdgglnaaDoorKit
import Derived.Test.YtfbgmhjjdgglnaaDoorMark
import Derived.Test.YtfbgmhjjdgglnaaDoorApp
import Derived.Test.YtfbgmhjjdgglnaaDoorMarkV
import Derived.Test.YtfbgmhjjdgglnaaDoorLawVal
import Derived.Test.YtfbgmhjjdgglnaaDoorCopy
import Derived.Test.YtfbgmhjjdgglnaaDoorPathAt
import Derived.Test.YtfbgmhjjdgglnaaDoorPathAt2
import Derived.Test.YtfbgmhjjdgglnaaDoorSame2
import Derived.Test.YtfbgmhjjdgglnaaDoorOnce
import Derived.Test.YtfbgmhjjdgglnaaDoorKeepX
import Derived.Test.YtfbgmhjjdgglnaaDoorAppX
import Derived.Test.YtfbgmhjjdgglnaaDoorAppS
import Derived.Test.YtfbgmhjjdgglnaaDoorNamesT
import Derived.Test.YtfbgmhjjdgglnaaDoorShelf
import Derived.Test.YtfbgmhjjdgglnaaDoorNum
import Derived.Test.YtfbgmhjjdgglnaaDoorPText
import Derived.Test.YtfbgmhjjdgglnaaDoorTextF
import Derived.Test.YtfbgmhjjdgglnaaDoorValF
import Derived.Test.YtfbgmhjjdgglnaaDoorValF2
import Derived.Test.YtfbgmhjjdgglnaaDoorValF3
import Derived.Test.YtfbgmhjjdgglnaaDoorRune
import Derived.Test.YtfbgmhjjdgglnaaDoorRune2
import Derived.Test.YtfbgmhjjdgglnaaDoorOwnT
import Derived.Test.YtfbgmhjjdgglnaaDoorOwnS
import Derived.Test.YtfbgmhjjdgglnaaDoorEvery
import Derived.Test.YtfbgmhjjdgglnaaDoorHexT
import Derived.Test.YtfbgmhjjdgglnaaDoorPutR
import Derived.Test.YtfbgmhjjdgglnaaDoorEsc
import Derived.Test.YtfbgmhjjdgglnaaDoorQuo
import Derived.Test.YtfbgmhjjdgglnaaDoorQuo2
import Derived.Test.YtfbgmhjjdgglnaaDoorDecF
import Derived.Test.YtfbgmhjjdgglnaaDoorDecF2
import Derived.Test.YtfbgmhjjdgglnaaDoorFltD
import Derived.Test.YtfbgmhjjdgglnaaDoorDecT
import Derived.Test.YtfbgmhjjdgglnaaDoorWriA
namespace Go.Proofs.YtfbgmhjjdgglnaaDoor
open Go.ChangeShapes Go.WideShapes Go.ChangeAt Go.RowKit Go.Joins
set_option linter.unusedVariables false
set_option maxRecDepth 100000
theorem impl_boolText (n : Int) (w : World) (hn : I64 n) : Calls Tryd.prog 129 #[.int .i64 n] w fun e w' => e = .returned (.string (if n = 1 then ⟨#[116, 114, 117, 101]⟩ else ⟨#[102, 97, 108, 115, 101]⟩)) ∧ Below w.heap.size w w' := by
  obtain ⟨hn0, hn1⟩ := hn
  by_cases h1 : n = 1
  · subst h1
    rw [if_pos rfl]
    go_enter Tryd.func129, Tryd.ntmps129
    go_wp2_with fail
    go_ret
    exact ⟨rfl, Below.refl _ _⟩
  · rw [if_neg h1]
    go_enter Tryd.func129, Tryd.ntmps129
    go_wp2_with fail
    go_ret
    exact ⟨rfl, Below.refl _ _⟩
set_option maxHeartbeats 2000000 in
theorem impl_leafText (t : T) (a : Option Addr) (cap B : Nat) (w : World) (hr : R w B a cap t.l) (hwf : Wf t) (hsz : T.sz t ≤ 1048576) (he : Env B w) (hB : B ≤ w.heap.size) (hp : wrP t) (h4 : t.k ≠ 4) (h9 : t.k ≠ 9) (h10 : t.k ≠ 10) :
    Calls Tryd.prog 106 #[.agg (cV t a cap)] w fun e w' => e = .returned (.string (leafT t.k t.n t.x t.s)) ∧ Below w.heap.size w w' := by
  cases t with
  | mk k n x s l =>
    obtain ⟨hk, hn, hx, hsm⟩ := hwf
    simp only [wrP, T.k, T.n, T.x] at hp
    simp only [cV, T.k, T.n, T.x, T.s, T.l] at hr hk hn hx hsm h4 h9 h10 ⊢
    obtain ⟨hk0, hk1⟩ := hk
    rw [sz_of] at hsz
    obtain ⟨hlc, hcap⟩ := hr.len
    clear hr
    have H0 := Lib.hid (below1 w (.cells #[Value.int IntKind.i64 k, Value.int IntKind.i64 n, Value.int IntKind.i64 x, Value.string s, Value.slice a l.length cap] 31))
    have HE := Lib.hid ((he.step (H0.out.mono hB)).here (w := w.alloc _) (by simp; omega))
    clear he
    have HN := Lib.hid hn
    have HX := Lib.hid hx
    obtain ⟨hn0, hn1⟩ := hn
    obtain ⟨hx0, hx1⟩ := hx
    have c1 : k = 1 ∨ k = 2 ∨ k = 3 ∨ k = 6 ∨ k = 7 := by omega
    clear h4 h9 h10
    obtain rfl | rfl | rfl | rfl | rfl := c1
    · have HD := Lib.hid (show leafT 1 n x s = ⟨#[110, 117, 108, 108]⟩ from rfl)
      go_enter Tryd.func106, Tryd.ntmps106
      go_wp2_with fail
      go_ret
      exact ⟨ret_s HD.out.symm, H0.out⟩
    · have HD := Lib.hid (show leafT 2 n x s = if n = 1 then ⟨#[116, 114, 117, 101]⟩ else ⟨#[102, 97, 108, 115, 101]⟩ from rfl)
      go_enter Tryd.func106, Tryd.ntmps106
      go_wp2_with fail
      refine (impl_boolText n _ HN.out).mono ?_
      rintro e w2 ⟨rfl, hb2⟩
      rw [← HD.out]
      have HB2 := Lib.hid (below_step H0.out hb2 (by simp)); clear hb2
      go_wp2_with fail
      go_ret
      exact ⟨rfl, HB2.out⟩
    · have HD := Lib.hid (show leafT 3 n x s = numT n from rfl)
      go_enter Tryd.func106, Tryd.ntmps106
      go_wp2_with fail
      refine (impl_NumText n _ HN.out (HE.out.1 _ (Below.refl _ _))).mono ?_
      rintro e w2 ⟨rfl, hb2⟩
      have HB2 := Lib.hid (below_step H0.out hb2 (by simp)); clear hb2
      go_wp2_with fail
      go_ret
      exact ⟨ret_s HD.out.symm, HB2.out⟩
    · obtain ⟨m, rfl⟩ : ∃ m : Nat, x = -(m : Int) := ⟨(-x).toNat, by omega⟩
      have HD := Lib.hid (show leafT 6 n (-(m : Int)) s = decTx n m from by
        simp only [leafT]
        simp)
      have hm40 : m ≤ 40 := by omega
      go_enter Tryd.func106, Tryd.ntmps106
      go_wp2_with fail
      refine (impl_DecText n m _ HN.out hm40 HE.out.1).mono ?_
      rintro e w2 ⟨rfl, hb2⟩
      have HB2 := Lib.hid (below_step H0.out hb2 (by simp)); clear hb2
      go_wp2_with fail
      go_ret
      exact ⟨ret_s HD.out.symm, HB2.out⟩
    · have HD := Lib.hid (show leafT 7 n x s = quoteT s from rfl)
      go_enter Tryd.func106, Tryd.ntmps106
      go_wp2_with fail
      refine (impl_Quote s _ (by omega) HE.out.2).mono ?_
      rintro e w2 ⟨rfl, hb2⟩
      have HB2 := Lib.hid (below_step H0.out hb2 (by simp)); clear hb2
      go_wp2_with fail
      go_ret
      exact ⟨ret_s HD.out.symm, HB2.out⟩
set_option maxHeartbeats 2000000 in
theorem impl_leafPlain (t : T) (a : Option Addr) (cap B : Nat) (w : World) (hr : R w B a cap t.l) (hwf : Wf t) (hsz : T.sz t ≤ 1048576) (he : Env B w) (hB : B ≤ w.heap.size) (hp : wrP t) (h9 : t.k ≠ 9) (h10 : t.k ≠ 10) :
    Calls Tryd.prog 65 #[.agg (cV t a cap)] w fun e w' => e = .returned (.string (leafT t.k t.n t.x t.s)) ∧ Below w.heap.size w w' := by
  have H0 := Lib.hid (below1 w (.cells (cV t a cap) 31))
  by_cases h4 : t.k = 4
  · cases t with
    | mk k n x s l =>
      obtain ⟨hk, hn, hx, hsm⟩ := hwf
      simp only [cV, T.k, T.n, T.x, T.s, T.l] at hr hk hn hx hsm h4 h9 h10 H0 ⊢
      subst h4
      obtain ⟨hlc, hcap⟩ := hr.len
      clear hr
      have HE := Lib.hid ((he.step (H0.out.mono hB)).here (w := w.alloc _) (by simp; omega))
      clear he
      have HN := Lib.hid hn
      have HX := Lib.hid hx
      obtain ⟨hn0, hn1⟩ := hn
      obtain ⟨hx0, hx1⟩ := hx
      have HD := Lib.hid (show leafT 4 n x s = fltTx n x from rfl)
      go_enter Tryd.func65, Tryd.ntmps65
      go_wp2_with fail
      refine (impl_FltText n x _ HN.out HX.out HE.out.1).mono ?_
      rintro e w2 ⟨rfl, hb2⟩
      have HB2 := Lib.hid (below_step H0.out hb2 (by simp)); clear hb2
      go_wp2_with fail
      go_ret
      exact ⟨ret_s HD.out.symm, HB2.out⟩
  · have cC := impl_leafText t a cap B _ (hr.below H0.out hB) hwf hsz (he.step (H0.out.mono hB)) (by simp; omega) hp h4 h9 h10
    obtain ⟨⟨hk0, hk1⟩, _⟩ := hwf
    clear hr hp
    cases t with
    | mk k n x s l =>
      simp only [cV, T.k, T.n, T.x, T.s, T.l] at *
      go_enter Tryd.func65, Tryd.ntmps65
      go_wp2_with fail
      refine cC.mono ?_
      rintro e w2 ⟨rfl, hb2⟩
      have HB2 := Lib.hid (below_step H0.out hb2 (by simp)); clear hb2
      generalize hL : leafT k n x s = L
      have HL := Lib.hid hL; clear hL
      go_wp2_with fail
      go_ret
      exact ⟨ret_s HL.out.symm, HB2.out⟩
end Go.Proofs.YtfbgmhjjdgglnaaDoor
