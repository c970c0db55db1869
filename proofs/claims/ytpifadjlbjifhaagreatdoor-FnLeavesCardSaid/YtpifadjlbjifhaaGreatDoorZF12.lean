/- Texts of this proof, merged: Near4, Half1. No condition beyond what each theorem states. -/
import Derived.Test.YtpifadjlbjifhaaGreatDoorRows
import Derived.WalkKit
import Derived.ProofKit
import Derived.OpenShut
import Derived.Handy
import Derived.Lib.Hide
import Derived.Lib.SmallJoins
import Derived.Deep.RegionHeld3
import Derived.Deep.QuietTactic
import Derived.BigQuiet
import Derived.Laws.Bits64b
import Derived.Laws.BitsLemmas
import Derived.Lib.Mul64
import Derived.Lib.ItoaNum
import Derived.Deep.CutBlock
import Derived.Deep.DeepCutAuto
import Derived.Test.YtpifadjlbjifhaaGreatDoorZF1
import Derived.Test.YtpifadjlbjifhaaGreatDoorZF2
import Derived.Test.YtpifadjlbjifhaaGreatDoorZF3
import Derived.Test.YtpifadjlbjifhaaGreatDoorZF4
import Derived.Test.YtpifadjlbjifhaaGreatDoorShelf
import Derived.Test.YtpifadjlbjifhaaGreatDoorZF5
import Derived.Test.YtpifadjlbjifhaaGreatDoorZF7
import Derived.Test.YtpifadjlbjifhaaGreatDoorZF8
import Derived.Test.YtpifadjlbjifhaaGreatDoorZF9
import Derived.Test.YtpifadjlbjifhaaGreatDoorZF10
import Derived.Test.YtpifadjlbjifhaaGreatDoorZF11
import Derived.Laws.BytesArg
import Derived.Lib.ItoaLen
import Derived.Lib.AppendIntMem
set_option linter.unusedSimpArgs false
set_option linter.unnecessarySimpa false
namespace Go.Proofs.YtpifadjlbjifhaaGreatDoor
open Go.ChangeShapes Go.WideShapes Go.ChangeAt Go.RowKit Go.Joins
set_option linter.unusedVariables false
set_option maxRecDepth 100000
theorem spec_Pow10 (k : Nat) (kk : Int) (p : Nat) (w : World) (h : kk = k) (hp : p = 10 ^ k) (hk2 : k ≤ 16) :
    Calls Tryz.prog 127 #[.int .i64 10, .int .i64 kk] w fun e w' => e = .returned (.int .i64 p) ∧ Below w.heap.size w w' := by
  subst h; subst hp; exact spec_Pow 10 k w (by omega) (by omega)
theorem spec_l5ScaledA (n p s : Nat) (a b c : Int) (ha : a = n) (hb : b = p) (hc : c = s) (q r : Nat) (w : World) (hn : n < 100000000000000000) (hp : 0 < p) (hp2 : p ≤ 10000000000000000) (hq : n / p ≤ 65535) (hs : s ≤ 17) (hqq : n * 2 ^ s / p = q) (hrr : n * 2 ^ s % p = r) :
    Calls Tryz.prog 163 #[.int .i64 a, .int .i64 b, .int .i64 c] w fun e w' => e = .returned (.tuple #[.int .i64 (q : Int), .int .i64 (cmpH r p), .bool (decide (0 < r))]) ∧ Below w.heap.size w w' := by
  subst ha; subst hb; subst hc; subst hqq; subst hrr; exact spec_l5Scaled n p s w hn hp hp2 hq hs
theorem spec_FltNewA (m e : Int) (r : (Int × Int) × Bool) (w : World) (hm : I64 m) (he : I64 e) (h : fltNewD m e = r) :
    Calls Tryz.prog 164 #[.int .i64 m, .int .i64 e] w fun ee w' => ee = .returned (.tuple #[.agg (cF r.1.1 r.1.2), .bool r.2]) ∧ Below w.heap.size w w' := by
  subst h; exact spec_FltNew m e w hm he
theorem aQ_up (N p t : Nat) : aQ N p (16 + t) = N / p / 2 ^ t := by
  unfold aQ
  rw [show 16 - (16 + t) = 0 from by omega, show 16 + t - 16 = t from by omega, Nat.pow_zero, Nat.mul_one, Nat.div_div_eq_div_mul]
theorem aQ_dn (N p j : Nat) (h : j ≤ 16) : aQ N p j = N * 2 ^ (16 - j) / p := by
  unfold aQ; rw [show j - 16 = 0 from by omega, Nat.pow_zero, Nat.mul_one]
theorem aR_dn (N p j : Nat) (h : j ≤ 16) : aR N p j = N * 2 ^ (16 - j) % p := by
  unfold aR; rw [show j - 16 = 0 from by omega, Nat.pow_zero, Nat.mul_one]
theorem aR_up (N p t : Nat) : aR N p (16 + t) = (N / p % 2 ^ t) * p + N % p := by
  unfold aR
  rw [show 16 - (16 + t) = 0 from by omega, show 16 + t - 16 = t from by omega, Nat.pow_zero, Nat.mul_one, rest_split]
set_option maxHeartbeats 4000000 in
set_option maxRecDepth 100000 in
theorem spec_NearFlt (n x : Int) (w : World) (hn : I64 n) (hx : I64 x) :
    Calls Tryz.prog 121 #[.agg (cF n x)] w fun ee w' => ee = .returned (.tuple #[.agg (cF (nearD n x).1.1 (nearD n x).1.2), .bool (nearD n x).2]) ∧ Below w.heap.size w w' := by
  have HN := Lib.hid hn
  have HX := Lib.hid hx
  obtain ⟨hn0, hn1⟩ := hn
  obtain ⟨hx0, hx1⟩ := hx
  obtain ⟨RR, hRR⟩ : ∃ r, nearD n x = r := ⟨_, rfl⟩
  rw [hRR]
  have HRR := Lib.hid hRR
  clear hRR
  go_enter Tryz.func121, Tryz.ntmps121
  go_wp2_with fail
  generalize hW : (w.alloc (Obj.cells (cF n x) 91)).alloc (Obj.cells (cF 0 0) 95) = W0
  have q1 : Is W0 w.heap.size 91 (cF n x) := by subst hW; exact (Is.new _ _ _).alloc _
  have q2 : Is W0 (w.heap.size + 1) 95 (cF 0 0) := by subst hW; exact Is.new2 _ _ _ _
  have H0 := Lib.hid (show Below w.heap.size w W0 from by subst hW; exact below2 _ _ _)
  have hs0 : W0.heap.size = w.heap.size + 2 := by subst hW; simp
  clear hW
  refine (spec_DecOk n x W0 HN.out HX.out).mono ?_
  rintro ee w2 ⟨rfl, hb2⟩
  have hs2 := hb2.size
  have p1 := q1.below hb2 (by omega)
  have p2 := q2.below hb2 (by omega)
  have HB2 := Lib.hid (H0.out.trans (hb2.mono (by omega))); clear hb2
  obtain ⟨x0, x1⟩ := p1.cells2b
  obtain ⟨z0, z1⟩ := p2.cells2b
  have ff := fun i => p2.frozen i
  have l1 : w.heap.size < w2.heap.size := by omega
  have l2 : w.heap.size + 1 < w2.heap.size := by omega
  by_cases hok : decOk n x
  case neg =>
    have HD := Lib.hid (show RR = ((0, 0), false) from HRR.out.symm.trans (if_pos hok))
    rw [decide_eq_false hok]
    clear hok
    go_wp2_with fail
    obtain ⟨e0, e1⟩ := ((p2.set 0 (.int .i64 0)).set 1 (.int .i64 0)).cells2b
    refine bodyPost_ret (v := .tuple #[.agg #[.int .i64 0, .int .i64 0], .bool false]) (by simp [results, Tryz.results121, go_sem, e0, e1]) rfl ⟨by rw [HD.out], HB2.out.trans ((below2s _ _ _ _).mono (by omega))⟩
  rw [decide_eq_true hok]
  obtain ⟨hN, hx16, hx00⟩ := decOk_n hok HN.out
  obtain ⟨k, hk⟩ : ∃ k : Nat, x = -(k : Int) := ⟨(-x).toNat, by omega⟩
  obtain ⟨N, hNn⟩ : ∃ N : Nat, N = n.natAbs := ⟨_, rfl⟩
  rw [← hNn] at hN
  obtain ⟨p, hp⟩ : ∃ p : Nat, p = 10 ^ k := ⟨_, rfl⟩
  have hp0 : 0 < p := by rw [hp]; exact Nat.pow_pos (by omega)
  have hp1 : p ≤ 10000000000000000 := by rw [hp]; exact ten_le (by omega)
  obtain ⟨J, hJ⟩ : ∃ J : Nat, J = nearJ N p 60 0 := ⟨_, rfl⟩
  have hJ58 : J ≤ 58 := by rw [hJ]; exact nearJ_le N p hN hp0
  have HJI : Hid (∀ i, i < J ↔ 65535 < aQ N p i) := Lib.hid (fun i => by rw [hJ]; exact near_iff N p hN hp0 i)
  have HJL : Hid (0 < J → 32768 ≤ aQ N p J) := Lib.hid (fun h => by rw [hJ]; exact near_least N p hN hp0 (by rw [← hJ]; exact h))
  obtain ⟨s, hs⟩ : ∃ s : Int, s = sgn n := ⟨_, rfl⟩
  have hs1 : s = 1 ∨ s = -1 := by rw [hs]; unfold sgn; split <;> omega
  have hsn : (n < 0 ∧ s = -1) ∨ (¬ n < 0 ∧ s = 1) := by rw [hs]; unfold sgn; split <;> omega
  obtain ⟨Q, hQ⟩ : ∃ Q : Nat, Q = aQ N p J := ⟨_, rfl⟩
  obtain ⟨R, hR⟩ : ∃ R : Nat, R = aR N p J := ⟨_, rfl⟩
  obtain ⟨D, hDD⟩ : ∃ D : Nat, D = p * 2 ^ (J - 16) := ⟨_, rfl⟩
  obtain ⟨Q', hQ'⟩ : ∃ Q' : Nat, Q' = nearUp Q R D := ⟨_, rfl⟩
  obtain ⟨e, he⟩ : ∃ e : Int, e = (J : Int) - 16 := ⟨_, rfl⟩
  have hQb : Q ≤ 65535 := by rw [hQ, hJ]; exact near_most N p hN hp0
  have hQlo : e = -16 ∨ 32768 ≤ Q := by
    by_cases h0 : 0 < J
    · right; rw [hQ]; exact HJL.out h0
    · left; omega
  have hQ'b := nearUp_box Q R D
  rw [← hQ'] at hQ'b
  have HD := Lib.hid (show RR = fltNewD (s * (Q' : Int)) e from by
    have e1 : (-x).toNat = k := by omega
    rw [← HRR.out]; unfold nearD; rw [if_neg (fun h => h hok), e1, ← hp, ← hNn, ← hJ]; unfold nearM; rw [← hJ, ← hQ, ← hR, ← hDD, ← hQ', ← hs, ← he])
  have HQQ := Lib.hid (And.intro hQ (And.intro hR (And.intro hDD hQ')))
  have HPP := Lib.hid hp
  have hnN : (n < 0 ∧ -n = (N : Int)) ∨ (¬ n < 0 ∧ n = (N : Int)) := by omega
  have HSN := Lib.hid hsn
  subst hk
  have PK := Lib.hid (And.intro p2 HB2.out)
  clear hok hp hJ hNn q1 q2 p2 H0 HB2 ff z0 z1 hs0 hs2 HN HX hs hQ hR hDD hQ' HJL
  go_upto_if 26 with (fail)
  go_cut [4, 5] (fun nv sv wx => nv = .int .i64 (N : Int) ∧ sv = .int .i64 s ∧ wx = w2)
  case first =>
    rcases hsn with ⟨h1, h2⟩ | ⟨h1, h2⟩
    · have h3 : -n = (N : Int) := by omega
      go_wp2_with fail
      go_meet
      case rel => exact ⟨by first | rfl | rw [h3], by first | rfl | rw [h2], by first | rfl | trivial⟩
    · have h3 : n = (N : Int) := by omega
      go_wp2_with fail
      go_meet
      case rel => exact ⟨by first | rfl | rw [h3], by first | rfl | rw [h2], by first | rfl | trivial⟩
  case rest =>
    obtain ⟨rfl, rfl, rfl⟩ := hcut
    have ek : -(-(k : Int)) = (k : Int) := by omega
    clear hsn hnN
    go_wp2_with fail
    refine (spec_Pow10 k _ p _ (by first | rfl | omega | (rw [Go.IntWalk.i64_left]; exact Go.IntWalk.wrap64_in _ ⟨by omega, by omega⟩)) HPP.out (by omega)).mono ?_
    rintro ee w4 ⟨rfl, hb4⟩
    have l4 : w.heap.size + 1 < w4.heap.size := by have := hb4.size; omega
    have P2 := Lib.hid (PK.out.1.below hb4 (by omega))
    have HB4 := Lib.hid (PK.out.2.trans (hb4.mono PK.out.2.size))
    clear hb4 x0 x1 l1 l2
    obtain ⟨G, hG⟩ : ∃ G : Nat, G = N / p := ⟨_, rfl⟩
    have eG : (N : Int).tdiv (p : Int) = (G : Int) := by rw [hG]; rfl
    have hpi : ¬ (p : Int) = 0 := by omega
    have hGN : G ≤ N := by rw [hG]; exact Nat.div_le_self _ _
    have HEG := Lib.hid (show wrap64 (G : Int) = (G : Int) from Go.IntWalk.wrap64_in _ ⟨by omega, by omega⟩)
    have HG := Lib.hid hG
    clear hG
    have HUP : Hid (∀ t : Nat, 16 + t < J ↔ 65536 * 2 ^ t ≤ G) := Lib.hid (fun t => by
      rw [HJI.out (16 + t), aQ_up, ← HG.out, ← Nat.le_div_iff_mul_le (Nat.two_pow_pos t)]; omega)
    go_wp2_with fail
    go_loopw [7] (fun ev wr => ∃ t : Nat, ev = .int .i64 t ∧ (t = 0 ∨ 16 + t ≤ J) ∧ Below w4.heap.size w4 wr) (fun ev _ => (60 - intOf ev).toNat)
    case atStart => exact ⟨0, rfl, Or.inl rfl, Below.refl _ _⟩
    case round =>
      obtain ⟨t, rfl, ht, hb⟩ := hrel
      have ht42 : t ≤ 42 := by omega
      have HBR := Lib.hid hb
      clear hb
      obtain ⟨S, hS⟩ : ∃ S : Nat, S = 65536 * 2 ^ t := ⟨_, rfl⟩
      have hSb : S ≤ 65536 * 4398046511104 := by
        have h1 : 2 ^ t ≤ 2 ^ 42 := Nat.pow_le_pow_right (by omega) ht42
        have h2 : (2 : Nat) ^ 42 = 4398046511104 := by decide
        omega
      have hmin : min t 64 = t := by omega
      have eS0 : (65536 : Int) * 2 ^ t = (S : Int) := by rw [hS, Int.natCast_mul, Int.natCast_pow]; rfl
      have HES := Lib.hid (show wrap64 (S : Int) = (S : Int) from Go.IntWalk.wrap64_in _ ⟨by omega, by omega⟩)
      have hUP := HUP.out t
      rw [← hS] at hUP
      have htn : ¬ (t : Int) < 0 := by omega
      clear hS
      by_cases hgo : 16 + t < J
      · have hi : (S : Int) ≤ (G : Int) := by have := hUP.1 hgo; omega
        clear hUP
        have eS1 := HES.out
        go_wp2_with fail
        go_quiet (fail)
        clear eS1
        have eG1 := HEG.out
        go_wp2_with fail
        clear eG1
        go_roundw
        case rel => exact ⟨t + 1, by go_num, by omega, HBR.out.trans (below_drewN _ _ _)⟩
        case measure => simp [intOf]; omega
      · have hi : ¬ (S : Int) ≤ (G : Int) := by
          intro h
          exact hgo (hUP.2 (by omega))
        have hi2 : ¬ S ≤ G := by omega
        clear hUP
        have eS1 := HES.out
        go_wp2_with fail
        go_quiet (fail)
        clear eS1
        have eG1 := HEG.out
        have HBQ := Lib.hid (HBR.out.trans (below_drewN _ _ nq))
        clear hSb eS0 hmin
        go_upto_if 42 with (fail)
        clear eG1
        go_cut [7, 8, 9, 10] (fun ev _ _ _ wx => ev = .int .i64 e ∧ Below w4.heap.size w4 wx)
        case first =>
          by_cases ht0 : t = 0
          · subst ht0
            have hJ16 : J ≤ 16 := by omega
            clear hi hi2 htn ht hgo
            go_wp2_with fail
            go_loopw [7] (fun ev wr => ∃ (j : Nat) (e2 : Int), ev = .int .i64 e2 ∧ e2 + 16 = (j : Int) ∧ J ≤ j ∧ j ≤ 16 ∧ Below w4.heap.size w4 wr) (fun ev _ => (intOf ev + 20).toNat)
            case atStart => exact ⟨16, 0, rfl, by omega, hJ16, by omega, HBQ.out⟩
            case round =>
              obtain ⟨j, e2, rfl, hej, hJj, hj16, hb9⟩ := hrel
              have HB9 := Lib.hid hb9
              clear hb9
              by_cases hj0 : j = 0
              · have h1 : e2 = -16 := by omega
                have h2 : e = -16 := by omega
                subst h1
                go_wp2_with fail
                go_meet
                case rel => exact ⟨by rw [h2], HB9.out⟩
              · have h1 : (-16 : Int) < e2 := by omega
                have es : 1 - e2 = ((17 - j : Nat) : Int) := by omega
                have hNp : N / p ≤ 65535 := by
                  by_cases hh : 65535 < N / p
                  · have h3 := (HJI.out 16).2 (by rw [aQ_dn N p 16 (by omega)]; simpa using hh)
                    omega
                  · omega
                obtain ⟨q, hq⟩ : ∃ q : Nat, N * 2 ^ (17 - j) / p = q := ⟨_, rfl⟩
                have hqJ : j - 1 < J ↔ 65535 < q := by
                  rw [HJI.out (j - 1), aQ_dn N p (j - 1) (by omega), show 16 - (j - 1) = 17 - j from by omega, hq]
                have HQX := Lib.hid (And.intro hq hNp)
                clear hq hNp
                go_wp2_with fail
                refine (spec_l5ScaledA N p (17 - j) _ _ _ (by rfl) (by rfl) (by first | exact es | omega) q _ _ hN hp0 hp1 HQX.out.2 (by omega) HQX.out.1 rfl).mono ?_
                rintro ee w9 ⟨rfl, hb9⟩
                have HB10 := Lib.hid (HB9.out.trans (hb9.mono HB9.out.size))
                clear hb9
                dsimp only
                by_cases hjJ : j = J
                · have hqi : (65535 : Int) < (q : Int) := by have := hqJ.1 (by omega); omega
                  have he2 : e2 = e := by omega
                  clear hqJ
                  go_wp2_with fail
                  go_meet
                  case rel => exact ⟨by rw [he2], HB10.out⟩
                · have hqi : ¬ (65535 : Int) < (q : Int) := fun h => by have := hqJ.2 (by omega); omega
                  clear hqJ
                  go_wp2_with fail
                  go_roundw
                  case rel => exact ⟨j - 1, e2 - 1, by go_num, by omega, by omega, by omega, HB10.out⟩
                  case measure => simp [intOf]; omega
          · have h1 : ¬ (t : Int) = 0 := by omega
            have h2 : ((t : Int) == 0) = false := by simp; omega
            have h3 : (t : Int) = e := by omega
            clear hi hi2 htn ht
            go_wp2_with fail
            go_meet
            case rel => exact ⟨by rw [← h3], HBQ.out⟩
        case rest =>
          obtain ⟨rfl, hb⟩ := hcut
          have HBC := Lib.hid hb
          clear hb hi hi2 htn ht hgo HBQ HBR
          go_upto_if 59 with (fail)
          go_cut [11, 12, 13, 14, 15, 16] (fun mv hv rv _ _ _ wx => mv = .int .i64 (Q : Int) ∧ hv = .int .i64 (cmpH R D) ∧ rv = .bool (decide (0 < R)) ∧ Below w4.heap.size w4 wx)
          case first =>
            by_cases he0 : e ≤ 0
            · have hJ16 : J ≤ 16 := by omega
              have es : -e = ((16 - J : Nat) : Int) := by omega
              have hNp : N / p ≤ 65535 := by
                by_cases hh : 65535 < N / p
                · have h3 := (HJI.out 16).2 (by rw [aQ_dn N p 16 (by omega)]; simpa using hh)
                  omega
                · omega
              have hDp : D = p := by rw [HQQ.out.2.2.1, show J - 16 = 0 from by omega, Nat.pow_zero, Nat.mul_one]
              have HQX := Lib.hid (And.intro hNp (And.intro (show N * 2 ^ (16 - J) / p = Q from by rw [HQQ.out.1, aQ_dn N p J hJ16]) (show N * 2 ^ (16 - J) % p = R from by rw [HQQ.out.2.1, aR_dn N p J hJ16])))
              clear hNp
              go_wp2_with fail
              refine (spec_l5ScaledA N p (16 - J) _ _ _ (by rfl) (by rfl) (by first | exact es | omega) Q R _ hN hp0 hp1 HQX.out.1 (by omega) HQX.out.2.1 HQX.out.2.2).mono ?_
              rintro ee w9 ⟨rfl, hb9⟩
              have HB10 := Lib.hid (HBC.out.trans (hb9.mono HBC.out.size))
              clear hb9
              dsimp only
              go_wp2_with fail
              go_meet
              case rel => exact ⟨rfl, by rw [hDp], rfl, HB10.out⟩
            · go_upto_region 22 with (fail)
              obtain ⟨T, hT⟩ : ∃ T : Nat, e = ((T + 1 : Nat) : Int) := ⟨(e - 1).toNat, by omega⟩
              have hJT : J = 16 + (T + 1) := by omega
              have hG0 := HG.out
              have hQ0 : Q = G / 2 ^ (T + 1) := by rw [HQQ.out.1, hJT, aQ_up, ← hG0]
              have hR0 : R = N % (p * 2 ^ (T + 1)) := by rw [HQQ.out.2.1, hJT, aR_up, rest_split]
              have hD0 : D = p * 2 ^ (T + 1) := by rw [HQQ.out.2.2.1, show J - 16 = T + 1 from by omega]
              obtain ⟨low, hlow⟩ : ∃ low : Nat, low = G % 2 ^ (T + 1) := ⟨_, rfl⟩
              obtain ⟨top, htop⟩ : ∃ top : Nat, top = 2 ^ T := ⟨_, rfl⟩
              obtain ⟨r, hr⟩ : ∃ r : Nat, r = N % p := ⟨_, rfl⟩
              obtain ⟨M2, hM2⟩ : ∃ M2 : Nat, M2 = Q * 2 ^ (T + 1) := ⟨_, rfl⟩
              have hGM : G = M2 + low := by rw [hM2, hQ0, hlow, Nat.mul_comm]; exact (Nat.div_add_mod _ _).symm
              have HSP := half_split N p T hp0 low top (by rw [hlow, hG0]) htop
              rw [← hR0, ← hD0, ← hr] at HSP
              have hRR : R = low * p + r := by rw [hR0, rest_split, ← hG0, ← hlow, ← hr]
              have hlow0 : (0 < R) ↔ (0 < low ∨ 0 < r) := by
                rw [hRR]
                have h4 : low ≤ low * p := Nat.le_mul_of_pos_right _ hp0
                by_cases h5 : low = 0
                · subst h5; rw [Nat.zero_mul]; omega
                · omega
              have htopb : top ≤ 4398046511104 := by
                have h1 : 2 ^ T ≤ 2 ^ 42 := Nat.pow_le_pow_right (by omega) (by omega)
                have h2 : (2 : Nat) ^ 42 = 4398046511104 := by decide
                omega
              have hw : ∀ a : Nat, a < 4611686018427387904 → wrap64 (a : Int) = (a : Int) := fun a h => Go.IntWalk.wrap64_in _ ⟨by omega, by omega⟩
              have g1 : G < 4611686018427387904 := by omega
              have g2 : M2 < 4611686018427387904 := by omega
              have g3 : low < 4611686018427387904 := by omega
              have g4 : top < 4611686018427387904 := by omega
              have g5 : Q < 4611686018427387904 := by omega
              have eshr : (G : Int) / 2 ^ (T + 1) = (Q : Int) := by rw [hQ0]; exact d_pow G (T + 1)
              have eshl : (Q : Int) * 2 ^ (T + 1) = (M2 : Int) := by rw [hM2, Int.natCast_mul, Int.natCast_pow]; rfl
              have etop : (2 : Int) ^ T = (top : Int) := by rw [htop, Int.natCast_pow]; rfl
              have elow : (G : Int) - (M2 : Int) = (low : Int) := by omega
              have erem : (N : Int).tmod (p : Int) = (r : Int) := by rw [hr]; rfl
              obtain ⟨T1, hT1⟩ : ∃ T1 : Nat, T1 = T + 1 := ⟨_, rfl⟩
              rw [← hT1] at hT eshr eshl
              have hmin : min T1 64 = T1 := by omega
              have hmin2 : min T 64 = T := by omega
              have eT1 : (T1 : Int) - 1 = (T : Int) := by omega
              have hT1n : ¬ (T1 : Int) < 0 := by omega
              have hT1z : ¬ (T1 : Int) ≤ 0 := by omega
              have hTn : ¬ (T : Int) < 0 := by omega
              have htop0 : 0 < top := by rw [htop]; exact Nat.two_pow_pos _
              have h6 : (top < low ∧ 0 < low ∧ cmpH R D = 1 ∧ decide (0 < R) = true) ∨ (low = top ∧ 0 < r ∧ cmpH R D = 1 ∧ decide (0 < R) = true) ∨ (low = top ∧ r = 0 ∧ cmpH R D = 0 ∧ decide (0 < R) = true) ∨ (low < top ∧ 0 < low ∧ cmpH R D = -1 ∧ decide (0 < R) = true) ∨ (low < top ∧ (low = 0 ∧ 0 < r) ∧ cmpH R D = -1 ∧ decide (0 < R) = true) ∨ (low < top ∧ (low = 0 ∧ r = 0) ∧ cmpH R D = -1 ∧ decide (0 < R) = false) := by
                clear hw hQ0 hR0 hD0 hlow htop hr hM2 hRR eshr eshl etop elow erem
                obtain ⟨s1, s2⟩ := HSP
                unfold cmpH
                rcases Nat.lt_trichotomy low top with h | h | h
                · have c1 : ¬ D < 2 * R := fun hh => by have := s1.1 hh; omega
                  have c2 : ¬ 2 * R = D := fun hh => by have := s2.1 hh; omega
                  rw [if_neg c1, if_neg c2]
                  by_cases hl0 : 0 < low
                  · right; right; right; left; exact ⟨h, hl0, rfl, decide_eq_true (hlow0.2 (Or.inl hl0))⟩
                  · by_cases hr0 : 0 < r
                    · right; right; right; right; left; exact ⟨h, ⟨by omega, hr0⟩, rfl, decide_eq_true (hlow0.2 (Or.inr hr0))⟩
                    · right; right; right; right; right; exact ⟨h, ⟨by omega, by omega⟩, rfl, decide_eq_false (fun hh => by have := hlow0.1 hh; omega)⟩
                · by_cases hr0 : 0 < r
                  · rw [if_pos (s1.2 (Or.inr ⟨h, hr0⟩))]
                    right; left; exact ⟨h, hr0, rfl, decide_eq_true (hlow0.2 (Or.inr hr0))⟩
                  · have c1 : ¬ D < 2 * R := fun hh => by have := s1.1 hh; omega
                    rw [if_neg c1, if_pos (s2.2 ⟨h, by omega⟩)]
                    right; right; left; exact ⟨h, by omega, rfl, decide_eq_true (hlow0.2 (Or.inl (by omega)))⟩
                · rw [if_pos (s1.2 (Or.inl h))]
                  left; exact ⟨h, by omega, rfl, decide_eq_true (hlow0.2 (Or.inl (by omega)))⟩
              clear hQ0 hR0 hD0 hlow htop hr hM2 hGM HSP hRR hlow0 htopb hJT hG0 hT1 he0 hQlo hQ'b
              subst hT
              clear he hJ58 hn0 hn1 hx0 hx1 hQb ht42
              go_upto_region 26 with (fail)
              clear hw g1 g2 g3 g4 g5 eshr eshl etop elow hmin hmin2 eT1 hT1n hT1z hTn
              rcases h6 with ⟨k1, k2, k3, k4⟩ | ⟨k1, k2, k3, k4⟩ | ⟨k1, k2, k3, k4⟩ | ⟨k1, k2, k3, k4⟩ | ⟨k1, ⟨k2, k5⟩, k3, k4⟩ | ⟨k1, ⟨k2, k5⟩, k3, k4⟩
              · have HK := Lib.hid (And.intro k3 k4); clear k3 k4
                go_wp2_with fail
                go_meet
                case rel => exact ⟨rfl, by rw [HK.out.1], by rw [HK.out.2], HBC.out⟩
              · have HK := Lib.hid (And.intro k3 k4); clear k3 k4
                subst k1
                go_wp2_with fail
                go_meet
                case rel => exact ⟨rfl, by rw [HK.out.1], by rw [HK.out.2], HBC.out⟩
              · have HK := Lib.hid (And.intro k3 k4); clear k3 k4
                subst k1
                subst k2
                go_wp2_with fail
                go_meet
                case rel => exact ⟨rfl, by rw [HK.out.1], by rw [HK.out.2], HBC.out⟩
              · have HK := Lib.hid (And.intro k3 k4); clear k3 k4
                have n1 : ¬ top < low := by omega
                have n2 : ¬ low = top := by omega
                go_wp2_with fail
                go_meet
                case rel => exact ⟨rfl, by rw [HK.out.1], by rw [HK.out.2], HBC.out⟩
              · have HK := Lib.hid (And.intro k3 k4); clear k3 k4
                subst k2
                have n2 : ¬ 0 = top := by omega
                have n3 : ¬ top = 0 := by omega
                go_wp2_with fail
                go_meet
                case rel => exact ⟨rfl, by rw [HK.out.1], by rw [HK.out.2], HBC.out⟩
              · have HK := Lib.hid (And.intro k3 k4); clear k3 k4
                subst k2
                have n2 : ¬ 0 = top := by omega
                have n3 : ¬ top = 0 := by omega
                subst k5
                go_wp2_with fail
                go_meet
                case rel => exact ⟨rfl, by rw [HK.out.1], by rw [HK.out.2], HBC.out⟩
          case rest =>
            obtain ⟨rfl, rfl, rfl, hb⟩ := hcut
            have hD0 : 0 < D := by rw [HQQ.out.2.2.1]; exact Nat.mul_pos hp0 (Nat.two_pow_pos _)
            have hbs : w4.heap.size ≤ wc.heap.size := hb.size
            have l5 : w.heap.size + 1 < wc.heap.size := by omega
            have P3 := Lib.hid (P2.out.below hb (by omega))
            have HB5 := Lib.hid (HB4.out.trans (hb.mono HB4.out.size))
            clear hb HBC P2 HB4 l4 hbs
            rename World => wz
            obtain ⟨E2, hE2⟩ : ∃ E2 : Int, E2 = if Q' = 65536 then e + 1 else e := ⟨_, rfl⟩
            obtain ⟨M2, hM2⟩ : ∃ M2 : Nat, M2 = if Q' = 65536 then 32768 else Q' := ⟨_, rfl⟩
            have HNE := Lib.hid (show RR = if 30 < E2 then ((0, 0), false) else fltNewD (s * (M2 : Int)) E2 from by
              rw [HD.out, near_end s e Q' hs1 (by omega) (by omega) (by omega), ← hE2, ← hM2])
            have hEM : (Q' = 65536 ∧ E2 = e + 1 ∧ M2 = 32768) ∨ (¬ Q' = 65536 ∧ E2 = e ∧ M2 = Q') := by
              by_cases h : Q' = 65536
              · left; exact ⟨h, by rw [hE2, if_pos h], by rw [hM2, if_pos h]⟩
              · right; exact ⟨h, by rw [hE2, if_neg h], by rw [hM2, if_neg h]⟩
            have hEb : -16 ≤ E2 ∧ E2 ≤ 43 := by omega
            have hMb : M2 ≤ 65536 := by omega
            clear hE2 hM2
            obtain ⟨c, hc⟩ : ∃ c : Int, c = cmpH R D := ⟨_, rfl⟩
            obtain ⟨rb, hrb⟩ : ∃ rb : Bool, rb = decide (0 < R) := ⟨_, rfl⟩
            obtain ⟨bb, hbb⟩ : ∃ bb : Bool, bb = decide (Q' = Q + 1) := ⟨_, rfl⟩
            have h5 : (c = 1 ∧ rb = true ∧ True ∧ bb = true) ∨ (c = 0 ∧ rb = true ∧ (Q : Int).tmod 2 = 1 ∧ bb = true) ∨ (c = 0 ∧ rb = true ∧ (Q : Int).tmod 2 = 0 ∧ bb = false) ∨ (c = -1 ∧ rb = true ∧ True ∧ bb = false) ∨ (c = -1 ∧ rb = false ∧ True ∧ bb = false) := by
              have hq := HQQ.out.2.2.2
              have hm : (Q : Int).tmod 2 = ((Q % 2 : Nat) : Int) := rfl
              rw [hc, hrb, hbb, hm]
              unfold nearUp at hq
              unfold cmpH
              by_cases a1 : D < 2 * R
              · rw [if_pos (Or.inl a1)] at hq
                rw [if_pos a1]
                left; exact ⟨rfl, decide_eq_true (by omega), trivial, decide_eq_true hq⟩
              · rw [if_neg a1]
                by_cases a2 : 2 * R = D
                · rw [if_pos a2]
                  by_cases a3 : Q % 2 = 1
                  · rw [if_pos (Or.inr ⟨a2, a3⟩)] at hq
                    right; left; exact ⟨rfl, decide_eq_true (by omega), by omega, decide_eq_true hq⟩
                  · rw [if_neg (by omega)] at hq
                    right; right; left; exact ⟨rfl, decide_eq_true (by omega), by omega, decide_eq_false (by omega)⟩
                · rw [if_neg (by omega)] at hq
                  rw [if_neg a2]
                  by_cases a4 : 0 < R
                  · right; right; right; left; exact ⟨rfl, decide_eq_true a4, trivial, decide_eq_false (by omega)⟩
                  · right; right; right; right; exact ⟨rfl, decide_eq_false a4, trivial, decide_eq_false (by omega)⟩
            rw [← hc, ← hrb]
            have hQB : (bb = true ∧ Q' = Q + 1) ∨ (bb = false ∧ Q' = Q) := by
              by_cases h : Q' = Q + 1
              · left; exact ⟨by rw [hbb]; exact decide_eq_true h, h⟩
              · right; exact ⟨by rw [hbb]; exact decide_eq_false h, by omega⟩
            clear hc hrb hbb HQQ HD hJ58 HJI HUP hQlo he ht42 HRR HG HPP HSN
            go_upto_region 31 with (fail)
            go_cut [123] (fun bv wx => bv = .bool bb ∧ wx = wz)
            case first =>
              rcases h5 with ⟨rfl, rfl, hpar, rfl⟩ | ⟨rfl, rfl, hpar, rfl⟩ | ⟨rfl, rfl, hpar, rfl⟩ | ⟨rfl, rfl, hpar, rfl⟩ | ⟨rfl, rfl, hpar, rfl⟩
              all_goals
                go_wp2_with fail
                go_meet
                case rel => exact ⟨by rfl, by first | rfl | trivial⟩
            case rest =>
              obtain ⟨rfl, rfl⟩ := hcut
              rename World => wy
              clear h5
              go_upto_if 123 with (fail)
              go_cut [11] (fun mv wx => mv = .int .i64 (Q' : Int) ∧ wx = wy)
              case first =>
                rcases hQB with ⟨rfl, h2⟩ | ⟨rfl, h2⟩
                · subst h2
                  go_wp2_with fail
                  go_meet
                  case rel => exact ⟨by first | rfl | go_num, by first | rfl | trivial⟩
                · subst h2
                  go_wp2_with fail
                  go_meet
                  case rel => exact ⟨by first | rfl | go_num, by first | rfl | trivial⟩
              case rest =>
                obtain ⟨rfl, rfl⟩ := hcut
                rename World => wx
                clear hQB hQ'b hQb
                go_upto_if 127 with (fail)
                go_cut [7, 11] (fun ev mv w0 => ev = .int .i64 E2 ∧ mv = .int .i64 (M2 : Int) ∧ w0 = wx)
                case first =>
                  rcases hEM with ⟨h1, rfl, rfl⟩ | ⟨h1, rfl, rfl⟩
                  · subst h1
                    go_wp2_with fail
                    go_meet
                    case rel => exact ⟨by first | rfl | go_num, by first | rfl | go_num, by first | rfl | trivial⟩
                  · have h2 : ¬ (M2 : Int) = 65536 := by omega
                    have h3 : ((M2 : Int) == 65536) = false := by simp; omega
                    go_wp2_with fail
                    go_meet
                    case rel => exact ⟨by first | rfl | go_num, by first | rfl | go_num, by first | rfl | trivial⟩
                case rest =>
                  obtain ⟨rfl, rfl, rfl⟩ := hcut
                  rename World => wv
                  clear hEM
                  have p2 := P3.out
                  obtain ⟨z0, z1⟩ := p2.cells2b
                  have ff := fun i => p2.frozen i
                  by_cases h30 : 30 < E2
                  · have HR := Lib.hid (HNE.out.trans (if_pos h30))
                    obtain ⟨e0, e1⟩ := ((p2.set 0 (.int .i64 0)).set 1 (.int .i64 0)).cells2b
                    go_wp2_with (refine bodyPost_ret (v := .tuple #[.agg #[.int .i64 0, .int .i64 0], .bool false]) (by simp [results, Tryz.results121, go_sem, e0, e1]) rfl ⟨by rw [HR.out], HB5.out.trans ((below2s _ _ _ _).mono (by omega))⟩)
                  · have HR := Lib.hid (HNE.out.trans (if_neg h30))
                    obtain ⟨SM, hSM⟩ : ∃ SM : Int, SM = s * (M2 : Int) := ⟨_, rfl⟩
                    have hSMb : -65536 ≤ SM ∧ SM ≤ 65536 := by rcases hs1 with h | h <;> rw [hSM, h] <;> omega
                    have esm : s * (M2 : Int) = SM := hSM.symm
                    have HRS := Lib.hid (show fltNewD SM E2 = RR from by rw [HR.out, hSM])
                    have HRN := Lib.hid (show RR.2 = false → RR = ((0, 0), false) from fun h => by rw [← HRS.out] at h ⊢; exact fltNewD_no _ _ h)
                    have HW := Lib.hid (show wrap64 SM = SM from Go.IntWalk.wrap64_in _ ⟨by omega, by omega⟩)
                    clear hSM HR HNE hs1
                    have ew := HW.out
                    go_wp2_with fail
                    refine (spec_FltNewA _ _ RR _ ⟨by omega, by omega⟩ ⟨by omega, by omega⟩ (by exact HRS.out)).mono ?_
                    rintro ee w9 ⟨rfl, hb9⟩
                    clear z0 z1 ff p2 ew
                    have hb9s : wv.heap.size ≤ w9.heap.size := hb9.size
                    have p9 := (P3.out.below hb9 (by omega)).alloc (.cells (cF RR.1.1 RR.1.2) 95)
                    have q9 := Is.new w9 (cF RR.1.1 RR.1.2) 95
                    obtain ⟨z0, z1⟩ := p9.cells2b
                    have ff := fun i => p9.frozen i
                    obtain ⟨y0, y1⟩ := q9.cells2b
                    have HB9 := Lib.hid (HB5.out.trans ((hb9.mono HB5.out.size).trans ((below1 w9 (.cells (cF RR.1.1 RR.1.2) 95)).mono (by omega))))
                    clear hb9
                    dsimp only
                    obtain ⟨rr, hrr⟩ : ∃ b, RR.2 = b := ⟨_, rfl⟩
                    rw [hrr]
                    have HRR2 := Lib.hid hrr
                    clear hrr
                    cases rr with
                    | false =>
                      have HR0 := Lib.hid (HRN.out HRR2.out)
                      obtain ⟨e0, e1⟩ := ((p9.set 0 (.int .i64 0)).set 1 (.int .i64 0)).cells2b
                      repeat (first | go_values | go_skip | go_guarded | go_step | go_upon)
                      refine bodyPost_ret (v := .tuple #[.agg #[.int .i64 0, .int .i64 0], .bool false]) (by simp [results, Tryz.results121, go_sem, e0, e1]) rfl ⟨by rw [HR0.out], HB9.out.trans ((below2s _ _ _ _).mono (by omega))⟩
                    | true =>
                      obtain ⟨e0, e1⟩ := ((p9.set 0 (.int .i64 RR.1.1)).set 1 (.int .i64 RR.1.2)).cells2b
                      repeat (first | go_values | go_skip | go_guarded | go_step | go_upon)
                      refine bodyPost_ret (v := .tuple #[.agg #[.int .i64 RR.1.1, .int .i64 RR.1.2], .bool true]) (by simp [results, Tryz.results121, go_sem, e0, e1]) rfl ⟨by rw [HRR2.out], HB9.out.trans ((below2s _ _ _ _).mono (by omega))⟩
end Go.Proofs.YtpifadjlbjifhaaGreatDoor
namespace Go.Proofs.YtpifadjlbjifhaaGreatDoor
open Go.ChangeShapes Go.WideShapes Go.ChangeAt Go.RowKit Go.Joins
set_option linter.unusedVariables false
set_option maxRecDepth 100000
mutual
/-- A tree whose numbers have become floating-point numbers. -/
def halfT : T → Option T
  | .mk k n x s l => if k = 3 ∨ k = 6 then (if (nearD n x).2 = true then some (.mk 4 (nearD n x).1.1 (nearD n x).1.2 ⟨#[]⟩ []) else none)
    else (halfTs l).map (fun r => .mk k n x s r)
def halfTs : List T → Option (List T)
  | [] => some []
  | t :: r => (halfT t).bind (fun a => (halfTs r).map (fun b => a :: b))
end
theorem halfTs_snoc (l : List T) (t : T) : halfTs (l ++ [t]) = (halfTs l).bind (fun r => (halfT t).map (fun a => r ++ [a])) := by
  induction l with
  | nil => cases h : halfT t <;> simp [halfTs, h]
  | cons u r ih =>
    rw [List.cons_append, halfTs, halfTs, ih]
    cases halfT u <;> cases halfTs r <;> cases halfT t <;> simp
theorem halfTs_succ (l : List T) (j : Nat) (h : j < l.length) : halfTs (l.take (j + 1)) = (halfTs (l.take j)).bind (fun r => (halfT l[j]).map (fun a => r ++ [a])) := by
  rw [take_snoc l j h, halfTs_snoc]
theorem halfTs_none (l : List T) (j : Nat) (h : j < l.length) (hn : halfT l[j] = none) : halfTs l = none := by
  have h1 : halfTs (l.take (j + 1)) = none := by rw [halfTs_succ l j h, hn]; cases halfTs (l.take j) <;> rfl
  have h2 : ∀ d, halfTs (l.take (j + 1 + d)) = none := by
    intro d
    induction d with
    | zero => exact h1
    | succ d ih =>
      by_cases hd : j + 1 + d < l.length
      · rw [← Nat.add_assoc, halfTs_succ l (j + 1 + d) hd, ih]; rfl
      · rw [List.take_of_length_le (by omega)]; rw [List.take_of_length_le (by omega)] at ih; exact ih
  have := h2 (l.length - (j + 1))
  rwa [List.take_of_length_le (by omega)] at this
theorem halfTs_length (l : List T) : ∀ r, halfTs l = some r → r.length = l.length := by
  induction l with
  | nil => intro r h; simp [halfTs] at h; subst h; rfl
  | cons t l ih =>
    intro r h
    rw [halfTs] at h
    cases h1 : halfT t with
    | none => rw [h1] at h; cases h
    | some a =>
      cases h2 : halfTs l with
      | none => rw [h1, h2] at h; cases h
      | some b => rw [h1, h2] at h; simp at h; subst h; simp [ih b h2]
set_option maxHeartbeats 4000000 in
theorem impl_nearVal (t : T) (a : Option Addr) (cap : Nat) (w : World) (hn : I64 t.n) (hx : I64 t.x) (htab : Lib.TabBelow Tryz.prog w.heap.size w "internal/strconv.uint64pow10" .u64 Lib.pow10Tab) :
    Calls Tryz.prog 78 #[.agg (cV t a cap)] w fun e w' => e = .returned (.tuple #[.agg #[.int .i64 4, .int .i64 (nearD t.n t.x).1.1, .int .i64 (nearD t.n t.x).1.2, .string ⟨#[]⟩, .slice none 0 0], .bool (nearD t.n t.x).2]) ∧ Below w.heap.size w w' := by
  obtain ⟨k, n, x, s, l⟩ := t
  simp only [cV, T.k, T.n, T.x, T.s, T.l] at hn hx ⊢
  obtain ⟨RR, hRR⟩ : ∃ r, nearD n x = r := ⟨_, rfl⟩
  rw [hRR]
  have HRR := Lib.hid hRR; clear hRR
  have HN := Lib.hid hn
  have HX := Lib.hid hx
  have HT := Lib.hid htab
  clear hn hx htab
  go_enter Tryz.func78, Tryz.ntmps78
  go_wp2_with fail
  generalize hW : (w.alloc (Obj.cells #[Value.int IntKind.i64 k, Value.int IntKind.i64 n, Value.int IntKind.i64 x, Value.string s, Value.slice a l.length cap] 36)).alloc (Obj.cells zV 36) = W0
  have q1 : Is W0 w.heap.size 36 #[Value.int IntKind.i64 k, Value.int IntKind.i64 n, Value.int IntKind.i64 x, Value.string s, Value.slice a l.length cap] := by subst hW; exact (Is.new _ _ _).alloc _
  have q2 : Is W0 (w.heap.size + 1) 36 zV := by subst hW; exact Is.new2 _ _ _ _
  have H0 := Lib.hid (show Below w.heap.size w W0 from by subst hW; exact below2 _ _ _)
  have hs0 : W0.heap.size = w.heap.size + 2 := by subst hW; simp
  clear hW
  refine (impl_NearFlt n x W0 HN.out HX.out (fun V hV => HT.out V (H0.out.trans (hV.mono (by omega))))).mono ?_
  rintro ee w2 ⟨rfl, hb2⟩
  rw [HRR.out]
  have hs2 := hb2.size
  have p2 := q2.below hb2 (by omega)
  have HB2 := Lib.hid (H0.out.trans (hb2.mono (by omega))); clear hb2
  have p3 := p2.alloc (.cells (cF RR.1.1 RR.1.2) 95)
  have q3 := Is.new w2 (cF RR.1.1 RR.1.2) 95
  have HB3 := Lib.hid (HB2.out.trans ((below1 w2 (.cells (cF RR.1.1 RR.1.2) 95)).mono (by omega)))
  have ff := fun i => p3.frozen i
  obtain ⟨o0, o1, o2, o3, o4⟩ := p3.cells5
  obtain ⟨y0, y1⟩ := q3.cells2b
  have hl1 : w.heap.size + 1 < (w2.alloc (.cells (cF RR.1.1 RR.1.2) 95)).heap.size := by simp; omega
  dsimp only
  repeat (first | go_values | go_skip | go_guarded | go_step | go_upon)
  obtain ⟨e0, e1, e2, e3, e4, hbel, hold, hsz⟩ := out5 p3.blk (.int .i64 4) (.int .i64 RR.1.1) (.int .i64 RR.1.2) (.string ⟨#[]⟩) (.slice none 0 0) w.heap.size (by omega)
  refine bodyPost_ret (v := .tuple #[.agg #[.int .i64 4, .int .i64 RR.1.1, .int .i64 RR.1.2, .string ⟨#[]⟩, .slice none 0 0], .bool RR.2]) (by simp [results, Tryz.results78, go_sem, e0, e1, e2, e3, e4]) rfl ⟨rfl, HB3.out.trans hbel⟩
set_option maxHeartbeats 4000000 in
theorem spec_l6FltVal (m x : Int) (w : World) :
    Calls Tryz.prog 123 #[.agg (cF m x)] w fun e w' => e = .returned (.agg #[.int .i64 4, .int .i64 m, .int .i64 x, .string ⟨#[]⟩, .slice none 0 0]) ∧ Below w.heap.size w w' := by
  go_enter Tryz.func123, Tryz.ntmps123
  go_wp2_with fail
  have q2 : Is ((w.alloc (Obj.cells (cF m x) 95)).alloc (Obj.cells #[Value.int IntKind.i64 4, Value.int IntKind.i64 m, Value.int IntKind.i64 x, Value.string ⟨#[]⟩, Value.slice none 0 0] 36)) (w.heap.size + 1) 36 _ := Is.new2 _ _ _ _
  obtain ⟨e0, e1, e2, e3, e4⟩ := q2.cells5
  refine bodyPost_ret (v := .agg #[.int .i64 4, .int .i64 m, .int .i64 x, .string ⟨#[]⟩, .slice none 0 0]) (by simp [results, Tryz.results123, go_sem, e0, e1, e2, e3, e4]) rfl ⟨rfl, below2 _ _ _⟩
theorem halfT_wf {t t' : T} (h : Wf t) (hh : halfT t = some t') : Wf t' := by
  obtain ⟨k, n, x, s, l⟩ := t
  rw [halfT] at hh
  have hb := nearD_box n x
  by_cases hk : k = 3 ∨ k = 6
  · rw [if_pos hk] at hh
    by_cases ho : (nearD n x).2 = true
    · rw [if_pos ho] at hh
      injection hh with hh
      subst hh
      exact ⟨⟨by simp [T.k], by simp [T.k]⟩, ⟨by simp only [T.n]; omega, by simp only [T.n]; omega⟩, ⟨by simp only [T.x]; omega, by simp only [T.x]; omega⟩, by simp [T.s, ByteArray.size, maxLen]⟩
    · rw [if_neg ho] at hh; cases hh
  · rw [if_neg hk] at hh
    cases h2 : halfTs l with
    | none => rw [h2] at hh; cases hh
    | some r =>
      rw [h2] at hh
      injection hh with hh
      subst hh
      exact h
theorem Own.clip {w : World} {lo hi cap : Nat} {a : Option Addr} {l : List T} (h : Own w lo hi a cap l) : Own w lo hi a l.length l := by
  obtain ⟨F, ⟨h1, h2, h3, h4⟩, h5, h6⟩ := h
  exact ⟨F, ⟨Nat.le_refl _, Nat.le_trans h1 h2, h3, h4⟩, h5, h6⟩
end Go.Proofs.YtpifadjlbjifhaaGreatDoor
