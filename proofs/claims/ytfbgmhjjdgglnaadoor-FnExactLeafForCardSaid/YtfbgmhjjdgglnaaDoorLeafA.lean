/- Contracts and lemmas for the proofs of this seat: LeafA. No condition beyond those stated. -/
import Derived.Test.YtfbgmhjjdgglnaaDoorRows
import Derived.WalkKit
import Derived.ProofKit
import Derived.OpenShut
import Derived.Handy
import Derived.Lib.Hide
import Derived.Lib.SmallJoins
import Derived.Laws.BytesArg
import Derived.Lib.ItoaNum
import Derived.Lib.ItoaLen
import Derived.Lib.AppendIntMem
import Derived.Deep.RegionHeld3
import Derived.Deep.QuietTactic
import Derived.BigQuiet
import Derived.Test.YtfbgmhjjdgglnaaDoorBase
import Derived.Test.YtfbgmhjjdgglnaaDoorGen
import Derived.Test.YtfbgmhjjdgglnaaDoorKit
import Derived.Test.YtfbgmhjjdgglnaaDoorMark
import Derived.Test.YtfbgmhjjdgglnaaDoorApp
import Derived.Test.YtfbgmhjjdgglnaaDoorMarkV
import Derived.Test.YtfbgmhjjdgglnaaDoorLawVal
import Derived.Test.YtfbgmhjjdgglnaaDoorCopy
import Derived.Test.YtfbgmhjjdgglnaaDoorPathAt
import Derived.Test.YtfbgmhjjdgglnaaDoorPathAt2
import Derived.Test.YtfbgmhjjdgglnaaDoorSame2
import Derived.Test.YtfbgmhjjdgglnaaDoorOnce
import Derived.Test.YtfbgmhjjdgglnaaDoorNamesT
import Derived.Test.YtfbgmhjjdgglnaaDoorShelf
import Derived.Test.YtfbgmhjjdgglnaaDoorNum
import Derived.Test.YtfbgmhjjdgglnaaDoorTextF
import Derived.Test.YtfbgmhjjdgglnaaDoorValF
import Derived.Test.YtfbgmhjjdgglnaaDoorValF2
import Derived.Test.YtfbgmhjjdgglnaaDoorValF3
import Derived.Test.YtfbgmhjjdgglnaaDoorDecF
import Derived.Test.YtfbgmhjjdgglnaaDoorDecF2
import Derived.Test.YtfbgmhjjdgglnaaDoorFltD
import Derived.Test.YtfbgmhjjdgglnaaDoorNearP
import Derived.Test.YtfbgmhjjdgglnaaDoorFltN
import Derived.Test.YtfbgmhjjdgglnaaDoorDiv
import Derived.Test.YtfbgmhjjdgglnaaDoorDiv2
import Derived.Test.YtfbgmhjjdgglnaaDoorNear1
import Derived.Test.YtfbgmhjjdgglnaaDoorNear3
import Derived.Test.YtfbgmhjjdgglnaaDoorNear2
import Derived.Test.YtfbgmhjjdgglnaaDoorNear4
import Derived.Test.YtfbgmhjjdgglnaaDoorHalf1
import Derived.Test.YtfbgmhjjdgglnaaDoorHexT
import Derived.Test.YtfbgmhjjdgglnaaDoorLeafP
namespace Go.Proofs.YtfbgmhjjdgglnaaDoor
open Go.ChangeShapes Go.WideShapes Go.ChangeAt Go.RowKit Go.Joins
set_option linter.unusedVariables false
set_option maxRecDepth 100000
theorem spec_IntVal (n : Int) (w : World) :
    Calls Tryd.prog 95 #[.int .i64 n] w fun e w' => e = .returned (.agg #[.int .i64 3, .int .i64 n, .int .i64 0, .string ⟨#[]⟩, .slice none 0 0]) ∧ Below w.heap.size w w' := by
  go_enter Tryd.func95, Tryd.ntmps95
  go_wp2_with fail
  have q2 := Is.new w #[Value.int IntKind.i64 3, Value.int IntKind.i64 n, Value.int IntKind.i64 0, Value.string ⟨#[]⟩, Value.slice none 0 0] 31
  obtain ⟨e0, e1, e2, e3, e4⟩ := q2.cells5
  refine bodyPost_ret (v := .agg #[.int .i64 3, .int .i64 n, .int .i64 0, .string ⟨#[]⟩, .slice none 0 0]) (by simp [results, Tryd.results95, go_sem, e0, e1, e2, e3, e4]) rfl ⟨rfl, below1 _ _⟩
theorem impl_IntVal (n : Int) (w : World) :
    Calls Tryd.prog 97 #[.int .i64 n] w fun e w' => e = .returned (.agg #[.int .i64 3, .int .i64 n, .int .i64 0, .string ⟨#[]⟩, .slice none 0 0]) ∧ Below w.heap.size w w' := by
  go_enter Tryd.func97, Tryd.ntmps97
  go_wp2_with fail
  have q2 := Is.new w #[Value.int IntKind.i64 3, Value.int IntKind.i64 n, Value.int IntKind.i64 0, Value.string ⟨#[]⟩, Value.slice none 0 0] 31
  obtain ⟨e0, e1, e2, e3, e4⟩ := q2.cells5
  refine bodyPost_ret (v := .agg #[.int .i64 3, .int .i64 n, .int .i64 0, .string ⟨#[]⟩, .slice none 0 0]) (by simp [results, Tryd.results97, go_sem, e0, e1, e2, e3, e4]) rfl ⟨rfl, below1 _ _⟩
theorem spec_TextVal (s : ByteArray) (w : World) :
    Calls Tryd.prog 53 #[.string s] w fun e w' => e = .returned (.agg #[.int .i64 7, .int .i64 0, .int .i64 0, .string s, .slice none 0 0]) ∧ Below w.heap.size w w' := by
  go_enter Tryd.func53, Tryd.ntmps53
  go_wp2_with fail
  have q2 := Is.new w #[Value.int IntKind.i64 7, Value.int IntKind.i64 0, Value.int IntKind.i64 0, Value.string s, Value.slice none 0 0] 31
  obtain ⟨e0, e1, e2, e3, e4⟩ := q2.cells5
  refine bodyPost_ret (v := .agg #[.int .i64 7, .int .i64 0, .int .i64 0, .string s, .slice none 0 0]) (by simp [results, Tryd.results53, go_sem, e0, e1, e2, e3, e4]) rfl ⟨rfl, below1 _ _⟩
theorem impl_TextVal (s : ByteArray) (w : World) :
    Calls Tryd.prog 60 #[.string s] w fun e w' => e = .returned (.agg #[.int .i64 7, .int .i64 0, .int .i64 0, .string s, .slice none 0 0]) ∧ Below w.heap.size w w' := by
  go_enter Tryd.func60, Tryd.ntmps60
  go_wp2_with fail
  have q2 := Is.new w #[Value.int IntKind.i64 7, Value.int IntKind.i64 0, Value.int IntKind.i64 0, Value.string s, Value.slice none 0 0] 31
  obtain ⟨e0, e1, e2, e3, e4⟩ := q2.cells5
  refine bodyPost_ret (v := .agg #[.int .i64 7, .int .i64 0, .int .i64 0, .string s, .slice none 0 0]) (by simp [results, Tryd.results60, go_sem, e0, e1, e2, e3, e4]) rfl ⟨rfl, below1 _ _⟩
set_option maxHeartbeats 1000000 in
theorem spec_NumberVal (n x : Int) (w : World) :
    Calls Tryd.prog 50 #[.agg (cF n x)] w fun e w' => e = .returned (.agg (cV (numV (n, x)) none 0)) ∧ Below w.heap.size w w' := by
  by_cases h : x = 0
  · subst h
    rw [show numV (n, 0) = .mk 3 n 0 ⟨#[]⟩ [] from rfl]
    go_enter Tryd.func50, Tryd.ntmps50
    go_wp2_with fail
    generalize hW : (w.alloc (Obj.cells (cF n 0) 69)).alloc (Obj.cells zV 31) = W0
    have q2 : Is W0 (w.heap.size + 1) 31 zV := by subst hW; exact Is.new2 _ _ _ _
    have H0 := Lib.hid (show Below w.heap.size w W0 from by subst hW; exact below2 _ _ _)
    have hs0 : W0.heap.size = w.heap.size + 2 := by subst hW; simp
    clear hW
    refine (spec_IntVal n W0).mono ?_
    rintro ee w2 ⟨rfl, hb⟩
    have p2 := q2.below hb (by omega)
    have HB := Lib.hid (H0.out.trans (hb.mono (by omega)))
    have hl1 : w.heap.size + 1 < w2.heap.size := by have := hb.size; omega
    have ff := fun i => p2.frozen i
    obtain ⟨o0, o1, o2, o3, o4⟩ := p2.cells5
    clear hb
    try dsimp only
    repeat (first | go_values | go_skip | go_guarded | go_step | go_upon)
    obtain ⟨e0, e1, e2, e3, e4, hbel, hold, hsz⟩ := out5 p2.blk (.int .i64 3) (.int .i64 n) (.int .i64 0) (.string ⟨#[]⟩) (.slice none 0 0) w.heap.size (by omega)
    refine bodyPost_ret (v := .agg #[.int .i64 3, .int .i64 n, .int .i64 0, .string ⟨#[]⟩, .slice none 0 0]) (by simp [results, Tryd.results50, go_sem, e0, e1, e2, e3, e4]) rfl ⟨rfl, HB.out.trans hbel⟩
  · have hb : (x == 0) = false := by simpa using h
    rw [show numV (n, x) = .mk 6 n x ⟨#[]⟩ [] from if_neg h]
    go_enter Tryd.func50, Tryd.ntmps50
    go_wp2_with fail
    have q2 : Is ((w.alloc (Obj.cells (cF n x) 69)).alloc (Obj.cells #[Value.int IntKind.i64 6, Value.int IntKind.i64 n, Value.int IntKind.i64 x, Value.string ⟨#[]⟩, Value.slice none 0 0] 31)) (w.heap.size + 1) 31 _ := Is.new2 _ _ _ _
    obtain ⟨e0, e1, e2, e3, e4⟩ := q2.cells5
    refine bodyPost_ret (v := .agg #[.int .i64 6, .int .i64 n, .int .i64 x, .string ⟨#[]⟩, .slice none 0 0]) (by simp [results, Tryd.results50, go_sem, e0, e1, e2, e3, e4]) rfl ⟨rfl, below2 _ _ _⟩
set_option maxHeartbeats 1000000 in
theorem impl_NumberVal (n x : Int) (w : World) :
    Calls Tryd.prog 58 #[.agg (cF n x)] w fun e w' => e = .returned (.agg (cV (numV (n, x)) none 0)) ∧ Below w.heap.size w w' := by
  by_cases h : x = 0
  · subst h
    rw [show numV (n, 0) = .mk 3 n 0 ⟨#[]⟩ [] from rfl]
    go_enter Tryd.func58, Tryd.ntmps58
    go_wp2_with fail
    generalize hW : (w.alloc (Obj.cells (cF n 0) 69)).alloc (Obj.cells zV 31) = W0
    have q2 : Is W0 (w.heap.size + 1) 31 zV := by subst hW; exact Is.new2 _ _ _ _
    have H0 := Lib.hid (show Below w.heap.size w W0 from by subst hW; exact below2 _ _ _)
    have hs0 : W0.heap.size = w.heap.size + 2 := by subst hW; simp
    clear hW
    refine (impl_IntVal n W0).mono ?_
    rintro ee w2 ⟨rfl, hb⟩
    have p2 := q2.below hb (by omega)
    have HB := Lib.hid (H0.out.trans (hb.mono (by omega)))
    have hl1 : w.heap.size + 1 < w2.heap.size := by have := hb.size; omega
    have ff := fun i => p2.frozen i
    obtain ⟨o0, o1, o2, o3, o4⟩ := p2.cells5
    clear hb
    try dsimp only
    repeat (first | go_values | go_skip | go_guarded | go_step | go_upon)
    obtain ⟨e0, e1, e2, e3, e4, hbel, hold, hsz⟩ := out5 p2.blk (.int .i64 3) (.int .i64 n) (.int .i64 0) (.string ⟨#[]⟩) (.slice none 0 0) w.heap.size (by omega)
    refine bodyPost_ret (v := .agg #[.int .i64 3, .int .i64 n, .int .i64 0, .string ⟨#[]⟩, .slice none 0 0]) (by simp [results, Tryd.results58, go_sem, e0, e1, e2, e3, e4]) rfl ⟨rfl, HB.out.trans hbel⟩
  · have hb : (x == 0) = false := by simpa using h
    rw [show numV (n, x) = .mk 6 n x ⟨#[]⟩ [] from if_neg h]
    go_enter Tryd.func58, Tryd.ntmps58
    go_wp2_with fail
    have q2 : Is ((w.alloc (Obj.cells (cF n x) 69)).alloc (Obj.cells #[Value.int IntKind.i64 6, Value.int IntKind.i64 n, Value.int IntKind.i64 x, Value.string ⟨#[]⟩, Value.slice none 0 0] 31)) (w.heap.size + 1) 31 _ := Is.new2 _ _ _ _
    obtain ⟨e0, e1, e2, e3, e4⟩ := q2.cells5
    refine bodyPost_ret (v := .agg #[.int .i64 6, .int .i64 n, .int .i64 x, .string ⟨#[]⟩, .slice none 0 0]) (by simp [results, Tryd.results58, go_sem, e0, e1, e2, e3, e4]) rfl ⟨rfl, below2 _ _ _⟩
theorem spec_TextNames (way : Int) (w : World) :
    Calls Tryd.prog 52 #[.int .i64 way] w fun e w' => e = .returned (.bool (decide (way = 1 ∨ way = 4))) ∧ w' = w := by
  by_cases h1 : way = 1
  · subst h1
    go_enter Tryd.func52, Tryd.ntmps52
    go_wp2_with fail
    go_ret
    exact ⟨by simp, rfl⟩
  · have hb : (way == 1) = false := by simpa using h1
    by_cases h4 : way = 4
    · subst h4
      go_enter Tryd.func52, Tryd.ntmps52
      go_wp2_with fail
      go_ret
      exact ⟨by simp, rfl⟩
    · have hb4 : (way == 4) = false := by simpa using h4
      go_enter Tryd.func52, Tryd.ntmps52
      go_wp2_with fail
      go_ret
      exact ⟨by simp [h1, h4], rfl⟩
end Go.Proofs.YtfbgmhjjdgglnaaDoor
