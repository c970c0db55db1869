/- Texts of this proof, merged: RdrA, RdrE, Rdr4. No condition beyond what each theorem states. -/
import Derived.Test.YtohfljaaaojjmaaGreatDoorZK20
set_option linter.unusedSimpArgs false
set_option linter.unnecessarySimpa false
namespace Go.Proofs.YtohfljaaaojjmaaGreatDoor
open Go.ChangeShapes Go.WideShapes Go.ChangeAt Go.RowKit Go.Joins
set_option linter.unusedVariables false
set_option maxRecDepth 100000
theorem tkH {P : Program} {ops : Array Oper} {Q : Exit → Act → World → Prop} {md : Region.Mode} {S : World → Prop} {i : Nat} {oi : Oper} {v : Value} {fuel : Nat} {listed : Array Bool} {a : Act} {w : World} (hi : ops[i]? = some oi)
    (hy : ∀ w, S w → (execOp a.eval oi).run P w = .ok (.value v) w) (h : wpAnyH P md ops Q S fuel (listed.setIfInBounds i true) (a.put oi.dst v) w)
    (hs : Region.noSelect ops = true := by kernel_rfl) (hf : Region.free md ops listed i = true := by kernel_rfl) (hr : (Region.ready md ops listed).contains i = true := by kernel_rfl) (hw : Region.wanted oi (yielded ops a.tmps) = true := by rfl)
    (hQ : ∀ c a w, Q (.panic c) (a.put oi.dst v) w → Q (.panic c) a w := by exact fun _ _ _ h => h) (hS : S w := by assumption) : wpAnyH P md ops Q S (fuel + 1) listed a w :=
  wpAnyH_take hi hs hf hr hQ (Or.inl ⟨hw, hy⟩) hS h
theorem getM_markR (bs : List Int) (p : Nat) (hp : p ≤ bs.length) : getM bs p = (match markR (bs.drop p) with | .error c => ((0, 0), 0, c) | .ok (k, n, u) => ((k, n), (p : Int) + u, 0)) := by
  unfold getM
  by_cases h : p < bs.length
  · rw [if_pos ⟨by omega, by omega⟩, Int.toNat_natCast]; rfl
  · rw [if_neg (by omega), List.drop_eq_nil_of_le (by omega)]; rfl
theorem shortD_in {c k n : Int} (h : shortD c = some (k, n)) (h0 : 0 ≤ c) (h1 : c ≤ 255) : (-256 ≤ n ∧ n ≤ 255) ∧ ((k = 1 ∨ k = 2 ∨ k = 3) ∨ ((k = 7 ∨ k = 9 ∨ k = 10) ∧ 0 ≤ n)) := by
  unfold shortD at h
  repeat' split at h
  all_goals first | (cases h; omega) | cases h
theorem markR_in {l : List Int} (hu : ∀ x ∈ l, U8 x) {k n : Int} {u : Nat} (h : markR l = .ok (k, n, u)) : (1 ≤ u ∧ u ≤ l.length) ∧ I64 n ∧ (k = 1 ∨ k = 2 ∨ k = 3 ∨ k = 4 ∨ k = 5 ∨ ((k = 7 ∨ k = 8 ∨ k = 9 ∨ k = 10) ∧ 0 ≤ n ∧ n ≤ 65535)) := by
  cases l with
  | nil => cases h
  | cons c r =>
    unfold markR at h
    dsimp only at h
    have hc := hu c (by simp)
    cases hs : shortD c with
    | some kn =>
      obtain ⟨k', n'⟩ := kn
      rw [hs] at h
      cases h
      have := shortD_in hs hc.1 hc.2
      exact ⟨⟨Nat.le_refl _, by simp⟩, ⟨by omega, by omega⟩, by omega⟩
    | none =>
      rw [hs] at h
      dsimp only at h
      by_cases hf : (formD c).1 = 0 ∨ r.length < (formD c).2
      · rw [if_pos hf] at h; cases h
      rw [if_neg hf] at h
      have hfc := formD_cases c
      have hA := beN_lt (r.take (formD c).2) (fun x hx => hu x (by simp [List.mem_of_mem_take hx]))
      have hlen : (r.take (formD c).2).length = (formD c).2 := by rw [List.length_take]; omega
      rw [hlen] at hA
      have hlr : (formD c).2 ≤ r.length := by omega
      obtain ⟨kd, wd, hkw⟩ : ∃ kd wd, formD c = (kd, wd) := ⟨_, _, rfl⟩
      rw [hkw] at h hfc hA hlr hf
      dsimp only at h hfc hA hlr hf
      have hll : (c :: r).length = r.length + 1 := rfl
      unfold argD at h
      rcases hfc with ⟨hz, _⟩ | ⟨rfl, hcr, hwd⟩ | ⟨rfl, _, rfl⟩ | ⟨rfl, _, rfl⟩ | ⟨hk, hcr, hwd⟩
      · omega
      · rw [if_neg (by decide), if_neg (by decide), if_pos rfl] at h
        split at h
        · split at h
          · cases h; refine ⟨⟨by omega, by omega⟩, ⟨by omega, by omega⟩, by omega⟩
          · cases h
        · split at h
          · cases h; refine ⟨⟨by omega, by omega⟩, ⟨by omega, by omega⟩, by omega⟩
          · cases h
      · rw [if_neg (by decide), if_pos rfl] at h
        split at h
        · cases h
          have := fltBitsD_in (bitsFltD (beN (r.take 4))).1.1 (bitsFltD (beN (r.take 4))).1.2
          refine ⟨⟨by omega, by omega⟩, ⟨by omega, by omega⟩, by omega⟩
        · cases h
      · rw [if_pos rfl] at h
        split at h
        · rename_i hc2
          cases h
          have hu1 : 0 ≤ (r.take 2).getD 1 0 := by
            rw [List.getD_eq_getElem?_getD]
            cases he : (r.take 2)[1]? with
            | none => simp
            | some x => exact (hu x (by have := List.mem_of_getElem? he; simp [List.mem_of_mem_take this])).1
          refine ⟨⟨by omega, by omega⟩, ⟨by omega, by omega⟩, by omega⟩
        · cases h
      · rw [if_neg (by omega), if_neg (by omega), if_neg (by omega)] at h
        split at h
        · cases h; refine ⟨⟨by omega, by omega⟩, ⟨by omega, by omega⟩, by omega⟩
        · cases h
theorem markR_err {l : List Int} {c : Int} (h : markR l = .error c) : c = 1 ∨ c = 2 := by
  cases l with
  | nil => cases h; exact Or.inl rfl
  | cons b r =>
    unfold markR at h
    dsimp only at h
    cases hs : shortD b with
    | some kn => obtain ⟨k', n'⟩ := kn; rw [hs] at h; cases h
    | none =>
      rw [hs] at h
      dsimp only at h
      split at h
      · cases h; exact Or.inl rfl
      · unfold argD at h
        repeat' split at h
        all_goals first | (cases h; done) | (cases h; exact Or.inl rfl) | (cases h; exact Or.inr rfl)
def Pr (w : World) (A : Nat) (a : Option Addr) (cap : Nat) (bs : List Int) (p c : Int) : Prop := Is w A 75 #[.slice a bs.length cap, .int .i64 p, .int .i64 c] ∧ Rd EByte 1 w A a cap bs
theorem Pr.below {w w' : World} {A n : Nat} {a : Option Addr} {cap : Nat} {bs : List Int} {p c : Int} (h : Pr w A a cap bs p c) (hb : Below n w w') (hn : A < n) : Pr w' A a cap bs p c := ⟨h.1.below hb hn, h.2.below EByte.loc hb (Nat.le_of_lt hn)⟩
theorem Pr.lt {w : World} {A : Nat} {a : Option Addr} {cap : Nat} {bs : List Int} {p c : Int} (h : Pr w A a cap bs p c) : A < w.heap.size := h.1.lt
theorem Pr.at {w : World} {A : Nat} {a : Option Addr} {cap : Nat} {bs : List Int} {p c : Int} (h : Pr w A a cap bs p c) (q : Int) : Pr (w.setCell ⟨A, 1, none⟩ (.int .i64 q)) A a cap bs q c :=
  ⟨h.1.set 1 _, h.2.below EByte.loc ((Below.refl A w).setCell (p := ⟨A, 1, none⟩) (Nat.le_refl _) _) (Nat.le_refl _)⟩
theorem Pr.code {w : World} {A : Nat} {a : Option Addr} {cap : Nat} {bs : List Int} {p c : Int} (h : Pr w A a cap bs p c) (q : Int) : Pr (w.setCell ⟨A, 2, none⟩ (.int .i64 q)) A a cap bs p q :=
  ⟨h.1.set 2 _, h.2.below EByte.loc ((Below.refl A w).setCell (p := ⟨A, 2, none⟩) (Nat.le_refl _) _) (Nat.le_refl _)⟩
theorem Pr.miss {w : World} {A : Nat} {a : Option Addr} {cap : Nat} {bs : List Int} {p c : Int} (h : Pr w A a cap bs p c) (g i : Nat) (hg : A < g) (v : Value) : Pr (w.setCell ⟨g, i, none⟩ v) A a cap bs p c :=
  h.below ((Below.refl g w).setCell (p := ⟨g, i, none⟩) (Nat.le_refl _) _) hg
set_option maxHeartbeats 4000000 in
theorem impl_pfail (A : Nat) (a : Option Addr) (cap : Nat) (bs : List Int) (p c0 c : Int) (w : World) (hp : Pr w A a cap bs p c0) :
    Calls Tryz.prog 128 #[.pointer (some ⟨A, 0, none⟩), .int .i64 c] w fun e w' => e = .returned (.agg zV) ∧ Pr w' A a cap bs p c ∧ Kp A w w' := by
  have hlA := hp.lt
  have HP := Lib.hid (hp.below (below1 w (.cells zV 26)) hlA)
  have HI := Lib.hid (Is.new w zV 26)
  have HK := Lib.hid (Kp.alloc (w := w) (Nat.le_of_lt hlA) (.cells zV 26))
  have hA1 : A < (w.alloc (.cells zV 26)).heap.size := by simp; omega
  have HP0 := Lib.hid hp
  clear hp
  have ff := fun i => HP.out.1.frozen i
  obtain ⟨z0, z1, z2⟩ := HP.out.1.cells3
  go_enter Tryz.func128, Tryz.ntmps128
  go_wp2_with fail
  have hi := Is.new (w.setCell ⟨A, 2, none⟩ (.int .i64 c)) zV 26
  rw [size_set] at hi
  obtain ⟨e0, e1, e2, e3, e4⟩ := hi.cells5
  have h1 := HP0.out.code c
  refine bodyPost_ret (v := .agg zV) (by simp [results, Tryz.results128, go_sem, e0, e1, e2, e3, e4]) rfl ⟨rfl, h1.below (below1 _ _) h1.lt, (Kp.cell 2 _).trans (Kp.alloc (Nat.le_of_lt h1.lt) _)⟩
theorem wfK' {k n : Int} (hk : k = 1 ∨ k = 2 ∨ k = 3 ∨ k = 4 ∨ k = 5 ∨ ((k = 7 ∨ k = 8 ∨ k = 9 ∨ k = 10) ∧ 0 ≤ n ∧ n ≤ 65535)) (hn : I64 n) : Wf (.mk k n 0 ⟨#[]⟩ []) := ⟨by show I64 k; exact ⟨by omega, by omega⟩, hn, ⟨by show (-9223372036854775808 : Int) ≤ 0; decide, by show (0 : Int) ≤ 9223372036854775807; decide⟩, by show (⟨#[]⟩ : ByteArray).size ≤ maxLen; exact Nat.zero_le _⟩
theorem wfK2 {n x : Int} (h1 : I64 n) (h2 : I64 x) : Wf (.mk 4 n x ⟨#[]⟩ []) := ⟨by show I64 4; exact ⟨by decide, by decide⟩, h1, h2, by show (⟨#[]⟩ : ByteArray).size ≤ maxLen; exact Nat.zero_le _⟩
theorem wfK3 {k : Int} {s : ByteArray} (h : k = 7 ∨ k = 8) (hs : s.size ≤ 65535) : Wf (.mk k 0 0 s []) := ⟨by show I64 k; exact ⟨by omega, by omega⟩, by show I64 0; exact ⟨by decide, by decide⟩, by show I64 0; exact ⟨by decide, by decide⟩, by show s.size ≤ maxLen; unfold maxLen; omega⟩
theorem conv_rd (w : World) (B : Nat) (b o cap : Nat) (l : List Int) (h : Rd EByte 1 w B (some ⟨b, o, none⟩) cap l) : (convert 22 9 (.slice (some ⟨b, o, none⟩) l.length cap)).run Tryz.prog w = .ok (.string (strOfNums l)) w :=
  run_convert_bytes_arg w 22 5 Tryz.underlying22 Tryz.underlying5 b o l.length cap l rfl (fun i hi => by
    obtain ⟨b', o', hae, _, hc, _⟩ := h.byte i hi
    cases hae
    rw [hc, List.getD_eq_getElem?_getD, List.getElem?_eq_getElem hi]; rfl) 9 Tryz.underlying9
def RdO (A : Nat) (a : Option Addr) (cap : Nat) (bs : List Int) (p : Nat) (w : World) (r : Except Int (T × Nat)) (e : Ending) (w' : World) : Prop :=
  (∃ t u a' cap', r = .ok (t, u) ∧ e = .returned (.agg (cV t a' cap')) ∧ Wf t ∧ p + u ≤ bs.length ∧ Pr w' A a cap bs ((p + u : Nat) : Int) 0 ∧ App TV 5 26 True w' w.heap.size w'.heap.size a' cap' t.l ∧ Kp A w w') ∨
  (∃ c q, r = .error c ∧ (c = 1 ∨ c = 2) ∧ e = .returned (.agg zV) ∧ Pr w' A a cap bs q c ∧ Kp A w w')
set_option maxHeartbeats 16000000 in
theorem pv_error (A : Nat) (a : Option Addr) (cap : Nat) (bs : List Int) (hlen : bs.length ≤ 1073741824) (d : Nat) (ih : ∀ (deep : Int) (p : Nat) (w : World), deep.toNat = d → I64 deep → p ≤ bs.length → Pr w A a cap bs p 0 → Env A w → Calls Tryz.prog 87 #[.pointer (some ⟨A, 0, none⟩), .int .i64 deep] w fun e w' => RdO A a cap bs p w (rdP d (bs.drop p)) e w') (deep : Int) (p : Nat) (w : World) (hd : deep.toNat = d + 1) (hI : I64 deep) (hpl : p ≤ bs.length) (hp : Pr w A a cap bs p 0) (henv : Env A w) (c : Int) (hmr : markR (bs.drop p) = .error c) :
    Calls Tryz.prog 87 #[.pointer (some ⟨A, 0, none⟩), .int .i64 deep] w fun e w' => RdO A a cap bs p w (rdP (d + 1) (bs.drop p)) e w' := by
  have HMR := Lib.hid hmr; clear hmr
  obtain ⟨hI0, hI1⟩ := hI
  have hlA := hp.lt
  have IH := Lib.hid ih; clear ih
  have HENV := Lib.hid henv; clear henv
  have HP := Lib.hid (hp.below (below1 w (.cells zV 26)) hlA)
  have HI := Lib.hid (Is.new w zV 26)
  have HK := Lib.hid (Kp.alloc (w := w) (Nat.le_of_lt hlA) (.cells zV 26))
  have HBL := Lib.hid (below1 w (.cells zV 26))
  have hdz : ¬ deep < 1 := by omega
  have hd1 : (deep - 1).toNat = d := by omega
  have HD1 := Lib.hid hd1; clear hd1 hd
  have HU := Lib.hid (fun x (hx : x ∈ bs.drop p) => hp.2.u8 x (List.mem_of_mem_drop hx))
  obtain ⟨hlc, hcap⟩ := hp.2.len
  clear hp
  obtain ⟨L, hL⟩ : ∃ L, rdP (d + 1) (bs.drop p) = L := ⟨_, rfl⟩
  rw [hL]
  have HL := Lib.hid hL; clear hL
  have HGM := Lib.hid (getM_markR bs p hpl)
  go_enter Tryz.func87, Tryz.ntmps87
  go_upto_region 3 with (fail)
  have hs1 : (w.alloc (.cells zV 26)).heap.size = w.heap.size + 1 := by simp
  obtain ⟨R, hR⟩ : ∃ R, w.heap.size = R := ⟨_, rfl⟩
  generalize hW1 : w.alloc (.cells zV 26) = w1 at *
  have hRA : A < R := by omega
  have hA1 : A < w1.heap.size := HP.out.lt
  have hR1 : R < w1.heap.size := by omega
  clear hs1
  rw [hR]
  obtain ⟨z0, z1, z2⟩ := HP.out.1.cells3
  obtain ⟨G, hG⟩ : ∃ G, getM bs (p : Int) = G := ⟨_, rfl⟩
  rw [hG] at HGM
  have HG := Lib.hid hG; clear hG hW1
  go_cut [5, 6, 7] (fun mv ev cv wx => ∃ M, mv = .pointer (some ⟨M, 0, none⟩) ∧ ev = .int .i64 G.2.1 ∧ cv = .int .i64 G.2.2 ∧ w1.heap.size ≤ M ∧ Hid (Is wx M 65 (cM G.1.1 G.1.2)) ∧ Hid (Below w1.heap.size w1 wx))
  case first =>
    refine wp_region_held_drew (S := fun w' => (∀ b o, b < w1.heap.size → w'.cell? ⟨b, o, none⟩ = w1.cell? ⟨b, o, none⟩) ∧ Below (w1.heap.size) w1 w') (by kernel_rfl) (by first | exact ⟨fun _ _ _ => rfl, (Below.refl _ _).drew⟩ | exact keep_step (by assumption) (Below.drew (Below.refl _ _)) (Nat.le_refl _) | exact keep_step (by assumption) (by assumption) (by first | omega | ((try simp only [World.size_drew, size_alloc]); omega) | (have := (‹(_ ∧ Below (w1.heap.size) w1 _)›).2.size; (try simp only [World.size_drew, size_alloc] at this ⊢); omega))) (fun hHeld => ?_)
    refine tkH (i := 0) (oi := ⟨some 18, _, _, _, _, _⟩) (v := ?_) rfl ?_ ?_
    rotate_left 1
    · (intro w hSw; (try dsimp only at hSw); go_simp; try (with_reducible rfl))
    try simp only [Act.put, List.setIfInBounds_toArray, List.set_cons_zero, List.set_cons_succ]
    refine tkH (i := 1) (oi := ⟨some 19, _, _, _, _, _⟩) (v := ?_) rfl ?_ ?_
    rotate_left 1
    · (intro w hSw; (try dsimp only at hSw); go_simp; try (with_reducible rfl))
    try simp only [Act.put, List.setIfInBounds_toArray, List.set_cons_zero, List.set_cons_succ]
    refine tkH (i := 2) (oi := ⟨some 20, _, _, _, _, _⟩) (v := ?_) rfl ?_ ?_
    rotate_left 1
    · (intro w hSw; (try dsimp only at hSw); go_simp; try (with_reducible rfl))
    try simp only [Act.put, List.setIfInBounds_toArray, List.set_cons_zero, List.set_cons_succ]
    refine tkH (i := 3) (oi := ⟨some 21, _, _, _, _, _⟩) (v := ?_) rfl ?_ ?_
    rotate_left 1
    · (intro w hSw; (try dsimp only at hSw); go_simp; try (with_reducible rfl))
    try simp only [Act.put, List.setIfInBounds_toArray, List.set_cons_zero, List.set_cons_succ]
    refine tkH (i := 4) (oi := ⟨some 22, _, _, _, _, _⟩) (v := ?_) rfl ?_ ?_
    rotate_left 1
    · (intro w hSw; (try dsimp only at hSw); go_simp; try (with_reducible rfl))
    try simp only [Act.put, List.setIfInBounds_toArray, List.set_cons_zero, List.set_cons_succ]
    refine tkH (i := 5) (oi := ⟨some 23, _, _, _, _, _⟩) (v := ?_) rfl ?_ ?_
    rotate_left 1
    · (intro w hSw; (try dsimp only at hSw); go_simp; try (with_reducible rfl))
    try simp only [Act.put, List.setIfInBounds_toArray, List.set_cons_zero, List.set_cons_succ]
    refine tkH (i := 6) (oi := ⟨some 24, _, _, _, _, _⟩) (v := ?_) rfl ?_ ?_
    rotate_left 1
    · (intro w hSw; (try dsimp only at hSw); go_simp; try (with_reducible rfl))
    try simp only [Act.put, List.setIfInBounds_toArray, List.set_cons_zero, List.set_cons_succ]
    refine tkH (i := 7) (oi := ⟨some 25, _, _, _, _, _⟩) (v := ?_) rfl ?_ ?_
    rotate_left 1
    · (intro w hSw; (try dsimp only at hSw); go_simp; try (with_reducible rfl))
    try simp only [Act.put, List.setIfInBounds_toArray, List.set_cons_zero, List.set_cons_succ]
    refine wpAnyH_ready (rs := [8, 13]) (by kernel_rfl) (by simp) ?_
    refine AllReadyH.cons (o := ⟨some 26, _, _, _, _, _⟩) rfl (fun K hK => ?_) ?_
    focus (go_simp; (first | (go_at_call 129; refine (impl_GetMark bs a cap A (p : Int) _ (HP.out.2.below EByte.loc (‹_ ∧ Below (w1.heap.size) w1 _›).2 (Nat.le_of_lt hA1)) (by have := (‹_ ∧ Below (w1.heap.size) w1 _›).2.size; omega) ⟨by omega, by omega⟩ (by omega)).mono ?_; rintro e w2 ⟨rfl, hb2⟩; have hq0 := (‹_ ∧ Below (w1.heap.size) w1 _›).2.size; have hq1 := hb2.size; (try simp only [World.size_drew, size_alloc] at hq0 hq1); (try (have hm2 : Is w2 w1.heap.size 65 (cM 0 0) := (Is.new w1.drew (cM 0 0) 65).below hb2 (by simp); have fm := (fun i => hm2.frozen i); have lm := hm2.lt; obtain ⟨m0, m1⟩ := hm2.cells2)); rw [HG.out])); go_wp2_with fail; refine hK.out _ _ (by first | exact ⟨fun _ _ _ => rfl, (Below.refl _ _).drew⟩ | exact keep_step (by assumption) (Below.drew (Below.refl _ _)) (Nat.le_refl _) | exact keep_step (by assumption) (by assumption) (by first | omega | ((try simp only [World.size_drew, size_alloc]); omega) | (have := (‹(_ ∧ Below (w1.heap.size) w1 _)›).2.size; (try simp only [World.size_drew, size_alloc] at this ⊢); omega))) (fun hHeld => ?_); clear hK K; try simp only [Act.put, List.setIfInBounds_toArray, List.set_cons_zero, List.set_cons_succ])
    refine tkH (i := 9) (oi := ⟨some 17, _, _, _, _, _⟩) (v := ?_) rfl ?_ ?_
    rotate_left 1
    · (intro w hSw; (try dsimp only at hSw); go_simp; try (with_reducible rfl))
    try simp only [Act.put, List.setIfInBounds_toArray, List.set_cons_zero, List.set_cons_succ]
    refine tkH (i := 10) (oi := ⟨some 27, _, _, _, _, _⟩) (v := ?_) rfl ?_ ?_
    rotate_left 1
    · (intro w hSw; (try dsimp only at hSw); go_simp; try (with_reducible rfl))
    try simp only [Act.put, List.setIfInBounds_toArray, List.set_cons_zero, List.set_cons_succ]
    refine tkH (i := 11) (oi := ⟨some 28, _, _, _, _, _⟩) (v := ?_) rfl ?_ ?_
    rotate_left 1
    · (intro w hSw; (try dsimp only at hSw); go_simp; try (with_reducible rfl))
    try simp only [Act.put, List.setIfInBounds_toArray, List.set_cons_zero, List.set_cons_succ]
    refine tkH (i := 12) (oi := ⟨some 29, _, _, _, _, _⟩) (v := ?_) rfl ?_ ?_
    rotate_left 1
    · (intro w hSw; (try dsimp only at hSw); go_simp; try (with_reducible rfl))
    try simp only [Act.put, List.setIfInBounds_toArray, List.set_cons_zero, List.set_cons_succ]
    refine wpAnyH_ready (rs := [13]) (by kernel_rfl) (by simp) ?_
    refine AllReadyH.cons (o := ⟨some 5, _, _, _, _, _⟩) rfl (fun K hK => ?_) AllReadyH.nil
    focus (go_simp; go_wp2_with fail; refine hK.out _ _ (by first | (with_reducible exact keep_step (by assumption) (below1 _ _) (by first | omega | ((try simp only [World.size_drew, size_alloc]); omega) | (have := (‹(_ ∧ Below (w1.heap.size) w1 _)›).2.size; (try simp only [World.size_drew, size_alloc] at this ⊢); omega))) | (exact keep_step (by assumption) (below1 _ _) (by first | omega | ((try simp only [World.size_drew, size_alloc]); omega) | (have := (‹(_ ∧ Below (w1.heap.size) w1 _)›).2.size; (try simp only [World.size_drew, size_alloc] at this ⊢); omega)))) (fun hHeld => ?_); clear hK K; try simp only [Act.put, List.setIfInBounds_toArray, List.set_cons_zero, List.set_cons_succ])
    refine wpAnyH_ready (rs := [14]) (by kernel_rfl) (by simp) ?_
    refine AllReadyH.cons (o := ⟨none, _, _, _, _, _⟩) rfl (fun K hK => ?_) AllReadyH.nil
    focus (go_simp; go_wp2_with fail; refine hK.out _ _ (by first | exact keep_step (by assumption) (below1 _ _) (by first | omega | ((try simp only [World.size_drew, size_alloc]); omega) | (have := (‹(_ ∧ Below (w1.heap.size) w1 _)›).2.size; (try simp only [World.size_drew, size_alloc] at this ⊢); omega)) | (clear hHeld; exact keep_step (by assumption) (below1 _ _) (by first | omega | ((try simp only [World.size_drew, size_alloc]); omega) | (have := (‹(_ ∧ Below (w1.heap.size) w1 _)›).2.size; (try simp only [World.size_drew, size_alloc] at this ⊢); omega)))) (fun hHeld => ?_); clear hK K; try simp only [Act.put])
    refine tkH (i := 15) (oi := ⟨some 6, _, _, _, _, _⟩) (v := ?_) rfl ?_ ?_
    rotate_left 1
    · (intro w hSw; (try dsimp only at hSw); go_simp; try (with_reducible rfl))
    try simp only [Act.put, List.setIfInBounds_toArray, List.set_cons_zero, List.set_cons_succ]
    refine tkH (i := 16) (oi := ⟨some 7, _, _, _, _, _⟩) (v := ?_) rfl ?_ ?_
    rotate_left 1
    · (intro w hSw; (try dsimp only at hSw); go_simp; try (with_reducible rfl))
    try simp only [Act.put, List.setIfInBounds_toArray, List.set_cons_zero, List.set_cons_succ]
    refine wpAnyH_done (by kernel_rfl) ?_ _
    rotate_left 1
    refine AllReadyH.cons (o := ⟨some 5, _, _, _, _, _⟩) rfl (fun K hK => ?_) AllReadyH.nil
    focus (go_simp; go_wp2_with fail; refine hK.out _ _ (by first | (with_reducible exact keep_step (by assumption) (below1 _ _) (by first | omega | ((try simp only [World.size_drew, size_alloc]); omega) | (have := (‹(_ ∧ Below (w1.heap.size) w1 _)›).2.size; (try simp only [World.size_drew, size_alloc] at this ⊢); omega))) | (exact keep_step (by assumption) (below1 _ _) (by first | omega | ((try simp only [World.size_drew, size_alloc]); omega) | (have := (‹(_ ∧ Below (w1.heap.size) w1 _)›).2.size; (try simp only [World.size_drew, size_alloc] at this ⊢); omega)))) (fun hHeld => ?_); clear hK K; try simp only [Act.put, List.setIfInBounds_toArray, List.set_cons_zero, List.set_cons_succ])
    refine wpAnyH_ready (rs := [8]) (by kernel_rfl) (by simp) ?_
    refine AllReadyH.cons (o := ⟨some 26, _, _, _, _, _⟩) rfl (fun K hK => ?_) AllReadyH.nil
    focus (go_simp; (first | (go_at_call 129; refine (impl_GetMark bs a cap A (p : Int) _ (HP.out.2.below EByte.loc (‹_ ∧ Below (w1.heap.size) w1 _›).2 (Nat.le_of_lt hA1)) (by have := (‹_ ∧ Below (w1.heap.size) w1 _›).2.size; omega) ⟨by omega, by omega⟩ (by omega)).mono ?_; rintro e w2 ⟨rfl, hb2⟩; have hq0 := (‹_ ∧ Below (w1.heap.size) w1 _›).2.size; have hq1 := hb2.size; (try simp only [World.size_drew, size_alloc] at hq0 hq1); (try (have hm2 : Is w2 w1.heap.size 65 (cM 0 0) := (Is.new w1.drew (cM 0 0) 65).below hb2 (by simp); have fm := (fun i => hm2.frozen i); have lm := hm2.lt; obtain ⟨m0, m1⟩ := hm2.cells2)); rw [HG.out])); go_wp2_with fail; refine hK.out _ _ (by first | exact ⟨fun _ _ _ => rfl, (Below.refl _ _).drew⟩ | exact keep_step (by assumption) (Below.drew (Below.refl _ _)) (Nat.le_refl _) | exact keep_step (by assumption) (by assumption) (by first | omega | ((try simp only [World.size_drew, size_alloc]); omega) | (have := (‹(_ ∧ Below (w1.heap.size) w1 _)›).2.size; (try simp only [World.size_drew, size_alloc] at this ⊢); omega))) (fun hHeld => ?_); clear hK K; try simp only [Act.put, List.setIfInBounds_toArray, List.set_cons_zero, List.set_cons_succ])
    refine tkH (i := 9) (oi := ⟨some 17, _, _, _, _, _⟩) (v := ?_) rfl ?_ ?_
    rotate_left 1
    · (intro w hSw; (try dsimp only at hSw); go_simp; try (with_reducible rfl))
    try simp only [Act.put, List.setIfInBounds_toArray, List.set_cons_zero, List.set_cons_succ]
    refine tkH (i := 10) (oi := ⟨some 27, _, _, _, _, _⟩) (v := ?_) rfl ?_ ?_
    rotate_left 1
    · (intro w hSw; (try dsimp only at hSw); go_simp; try (with_reducible rfl))
    try simp only [Act.put, List.setIfInBounds_toArray, List.set_cons_zero, List.set_cons_succ]
    refine tkH (i := 11) (oi := ⟨some 28, _, _, _, _, _⟩) (v := ?_) rfl ?_ ?_
    rotate_left 1
    · (intro w hSw; (try dsimp only at hSw); go_simp; try (with_reducible rfl))
    try simp only [Act.put, List.setIfInBounds_toArray, List.set_cons_zero, List.set_cons_succ]
    refine tkH (i := 12) (oi := ⟨some 29, _, _, _, _, _⟩) (v := ?_) rfl ?_ ?_
    rotate_left 1
    · (intro w hSw; (try dsimp only at hSw); go_simp; try (with_reducible rfl))
    try simp only [Act.put, List.setIfInBounds_toArray, List.set_cons_zero, List.set_cons_succ]
    refine wpAnyH_ready (rs := [14]) (by kernel_rfl) (by simp) ?_
    refine AllReadyH.cons (o := ⟨none, _, _, _, _, _⟩) rfl (fun K hK => ?_) AllReadyH.nil
    focus (go_simp; go_wp2_with fail; refine hK.out _ _ (by exact keep_step (by assumption) (below2s _ _ _ _) (by omega)) (fun hHeld => ?_); clear hK K; try simp only [Act.put])
    refine tkH (i := 15) (oi := ⟨some 6, _, _, _, _, _⟩) (v := ?_) rfl ?_ ?_
    rotate_left 1
    · (intro w hSw; (try dsimp only at hSw); go_simp; try (with_reducible rfl))
    try simp only [Act.put, List.setIfInBounds_toArray, List.set_cons_zero, List.set_cons_succ]
    refine tkH (i := 16) (oi := ⟨some 7, _, _, _, _, _⟩) (v := ?_) rfl ?_ ?_
    rotate_left 1
    · (intro w hSw; (try dsimp only at hSw); go_simp; try (with_reducible rfl))
    try simp only [Act.put, List.setIfInBounds_toArray, List.set_cons_zero, List.set_cons_succ]
    refine wpAnyH_done (by kernel_rfl) ?_ _
    all_goals
      have hcu := (‹_ ∧ Below (w1.heap.size) w1 _›).2
      go_wp2_with fail
      go_meet
      case rel => first | exact ⟨w1.heap.size, rfl, rfl, rfl, Nat.le_refl _, Lib.hid ((hm2.set 0 _).set 1 _), Lib.hid hcu⟩ | exact ⟨w2.heap.size, rfl, rfl, rfl, by omega, Lib.hid (Is.new w2 _ _), Lib.hid hcu⟩
  case rest =>
    clear z0 z1 z2
    obtain ⟨M, rfl, rfl, rfl, hM1, HM, HBX⟩ := hcut
    rename World => wx
    have HPX := Lib.hid (HP.out.below HBX.out hA1)
    have HIX := Lib.hid (show Is wx R 26 zV from hR ▸ (HI.out.below HBX.out (by omega)))
    have HKX := Lib.hid (HK.out.grow (HBX.out.mono (by have := HK.out.size; omega)) (by omega))
    have HEX := Lib.hid ((HENV.out.step (HK.out.1)).step (HBX.out.mono (Nat.le_of_lt hA1)))
    clear HP HI HBL HENV HG
    have hmr := HMR.out; clear HMR
    have hc := markR_err hmr
    have HLE := Lib.hid (show L = .error c from by rw [← HL.out, rdP, hmr])
    obtain rfl : G = ((0, 0), 0, c) := by rw [HGM.out, hmr]
    have hcb : (c != 0) = true := by simp; omega
    clear HL HGM hmr HM
    dsimp only
    go_wp2_with fail
    refine (impl_pfail A a cap bs p 0 c _ HPX.out).mono ?_
    rintro e w2 ⟨rfl, hp2, hk2⟩
    have p2 := hk2.is HIX.out (by omega)
    have f2 := fun i => p2.frozen i
    have l2 := p2.lt
    obtain ⟨o0, o1, o2, o3, o4⟩ := p2.cells5
    go_wp2_with fail
    obtain ⟨e0, e1, e2, e3, e4, hbel, hold, hsz⟩ := out5 p2.blk (.int .i64 0) (.int .i64 0) (.int .i64 0) (.string ⟨#[]⟩) (.slice none 0 0) R (Nat.le_refl _)
    refine bodyPost_ret (v := .agg zV) (by simp [results, Tryz.results87, go_sem, e0, e1, e2, e3, e4]) rfl (Or.inr ⟨c, (p : Int), HLE.out, hc, rfl, hp2.below hbel hRA, Kp.grow (HKX.out.trans hk2) (hbel.mono (by omega)) (by omega)⟩)
set_option maxHeartbeats 16000000 in
theorem pv_4 (A : Nat) (a : Option Addr) (cap : Nat) (bs : List Int) (hlen : bs.length ≤ 1073741824) (d : Nat) (ih : ∀ (deep : Int) (p : Nat) (w : World), deep.toNat = d → I64 deep → p ≤ bs.length → Pr w A a cap bs p 0 → Env A w → Calls Tryz.prog 87 #[.pointer (some ⟨A, 0, none⟩), .int .i64 deep] w fun e w' => RdO A a cap bs p w (rdP d (bs.drop p)) e w') (deep : Int) (p : Nat) (w : World) (hd : deep.toNat = d + 1) (hI : I64 deep) (hpl : p ≤ bs.length) (hp : Pr w A a cap bs p 0) (henv : Env A w) (k n : Int) (u : Nat) (hmr : markR (bs.drop p) = .ok (k, n, u)) (hsel : k = 4) :
    Calls Tryz.prog 87 #[.pointer (some ⟨A, 0, none⟩), .int .i64 deep] w fun e w' => RdO A a cap bs p w (rdP (d + 1) (bs.drop p)) e w' := by
  have HMR := Lib.hid hmr; clear hmr
  have HSEL := Lib.hid hsel; clear hsel
  obtain ⟨hI0, hI1⟩ := hI
  have hlA := hp.lt
  have IH := Lib.hid ih; clear ih
  have HENV := Lib.hid henv; clear henv
  have HP := Lib.hid (hp.below (below1 w (.cells zV 26)) hlA)
  have HI := Lib.hid (Is.new w zV 26)
  have HK := Lib.hid (Kp.alloc (w := w) (Nat.le_of_lt hlA) (.cells zV 26))
  have HBL := Lib.hid (below1 w (.cells zV 26))
  have hdz : ¬ deep < 1 := by omega
  have hd1 : (deep - 1).toNat = d := by omega
  have HD1 := Lib.hid hd1; clear hd1 hd
  have HU := Lib.hid (fun x (hx : x ∈ bs.drop p) => hp.2.u8 x (List.mem_of_mem_drop hx))
  obtain ⟨hlc, hcap⟩ := hp.2.len
  clear hp
  obtain ⟨L, hL⟩ : ∃ L, rdP (d + 1) (bs.drop p) = L := ⟨_, rfl⟩
  rw [hL]
  have HL := Lib.hid hL; clear hL
  have HGM := Lib.hid (getM_markR bs p hpl)
  go_enter Tryz.func87, Tryz.ntmps87
  go_upto_region 3 with (fail)
  have hs1 : (w.alloc (.cells zV 26)).heap.size = w.heap.size + 1 := by simp
  obtain ⟨R, hR⟩ : ∃ R, w.heap.size = R := ⟨_, rfl⟩
  generalize hW1 : w.alloc (.cells zV 26) = w1 at *
  have hRA : A < R := by omega
  have hA1 : A < w1.heap.size := HP.out.lt
  have hR1 : R < w1.heap.size := by omega
  clear hs1
  rw [hR]
  obtain ⟨z0, z1, z2⟩ := HP.out.1.cells3
  obtain ⟨G, hG⟩ : ∃ G, getM bs (p : Int) = G := ⟨_, rfl⟩
  rw [hG] at HGM
  have HG := Lib.hid hG; clear hG hW1
  go_cut [5, 6, 7] (fun mv ev cv wx => ∃ M, mv = .pointer (some ⟨M, 0, none⟩) ∧ ev = .int .i64 G.2.1 ∧ cv = .int .i64 G.2.2 ∧ w1.heap.size ≤ M ∧ Hid (Is wx M 65 (cM G.1.1 G.1.2)) ∧ Hid (Below w1.heap.size w1 wx))
  case first =>
    refine wp_region_held_drew (S := fun w' => (∀ b o, b < w1.heap.size → w'.cell? ⟨b, o, none⟩ = w1.cell? ⟨b, o, none⟩) ∧ Below (w1.heap.size) w1 w') (by kernel_rfl) (by first | exact ⟨fun _ _ _ => rfl, (Below.refl _ _).drew⟩ | exact keep_step (by assumption) (Below.drew (Below.refl _ _)) (Nat.le_refl _) | exact keep_step (by assumption) (by assumption) (by first | omega | ((try simp only [World.size_drew, size_alloc]); omega) | (have := (‹(_ ∧ Below (w1.heap.size) w1 _)›).2.size; (try simp only [World.size_drew, size_alloc] at this ⊢); omega))) (fun hHeld => ?_)
    refine tkH (i := 0) (oi := ⟨some 18, _, _, _, _, _⟩) (v := ?_) rfl ?_ ?_
    rotate_left 1
    · (intro w hSw; (try dsimp only at hSw); go_simp; try (with_reducible rfl))
    try simp only [Act.put, List.setIfInBounds_toArray, List.set_cons_zero, List.set_cons_succ]
    refine tkH (i := 1) (oi := ⟨some 19, _, _, _, _, _⟩) (v := ?_) rfl ?_ ?_
    rotate_left 1
    · (intro w hSw; (try dsimp only at hSw); go_simp; try (with_reducible rfl))
    try simp only [Act.put, List.setIfInBounds_toArray, List.set_cons_zero, List.set_cons_succ]
    refine tkH (i := 2) (oi := ⟨some 20, _, _, _, _, _⟩) (v := ?_) rfl ?_ ?_
    rotate_left 1
    · (intro w hSw; (try dsimp only at hSw); go_simp; try (with_reducible rfl))
    try simp only [Act.put, List.setIfInBounds_toArray, List.set_cons_zero, List.set_cons_succ]
    refine tkH (i := 3) (oi := ⟨some 21, _, _, _, _, _⟩) (v := ?_) rfl ?_ ?_
    rotate_left 1
    · (intro w hSw; (try dsimp only at hSw); go_simp; try (with_reducible rfl))
    try simp only [Act.put, List.setIfInBounds_toArray, List.set_cons_zero, List.set_cons_succ]
    refine tkH (i := 4) (oi := ⟨some 22, _, _, _, _, _⟩) (v := ?_) rfl ?_ ?_
    rotate_left 1
    · (intro w hSw; (try dsimp only at hSw); go_simp; try (with_reducible rfl))
    try simp only [Act.put, List.setIfInBounds_toArray, List.set_cons_zero, List.set_cons_succ]
    refine tkH (i := 5) (oi := ⟨some 23, _, _, _, _, _⟩) (v := ?_) rfl ?_ ?_
    rotate_left 1
    · (intro w hSw; (try dsimp only at hSw); go_simp; try (with_reducible rfl))
    try simp only [Act.put, List.setIfInBounds_toArray, List.set_cons_zero, List.set_cons_succ]
    refine tkH (i := 6) (oi := ⟨some 24, _, _, _, _, _⟩) (v := ?_) rfl ?_ ?_
    rotate_left 1
    · (intro w hSw; (try dsimp only at hSw); go_simp; try (with_reducible rfl))
    try simp only [Act.put, List.setIfInBounds_toArray, List.set_cons_zero, List.set_cons_succ]
    refine tkH (i := 7) (oi := ⟨some 25, _, _, _, _, _⟩) (v := ?_) rfl ?_ ?_
    rotate_left 1
    · (intro w hSw; (try dsimp only at hSw); go_simp; try (with_reducible rfl))
    try simp only [Act.put, List.setIfInBounds_toArray, List.set_cons_zero, List.set_cons_succ]
    refine wpAnyH_ready (rs := [8, 13]) (by kernel_rfl) (by simp) ?_
    refine AllReadyH.cons (o := ⟨some 26, _, _, _, _, _⟩) rfl (fun K hK => ?_) ?_
    focus (go_simp; (first | (go_at_call 129; refine (impl_GetMark bs a cap A (p : Int) _ (HP.out.2.below EByte.loc (‹_ ∧ Below (w1.heap.size) w1 _›).2 (Nat.le_of_lt hA1)) (by have := (‹_ ∧ Below (w1.heap.size) w1 _›).2.size; omega) ⟨by omega, by omega⟩ (by omega)).mono ?_; rintro e w2 ⟨rfl, hb2⟩; have hq0 := (‹_ ∧ Below (w1.heap.size) w1 _›).2.size; have hq1 := hb2.size; (try simp only [World.size_drew, size_alloc] at hq0 hq1); (try (have hm2 : Is w2 w1.heap.size 65 (cM 0 0) := (Is.new w1.drew (cM 0 0) 65).below hb2 (by simp); have fm := (fun i => hm2.frozen i); have lm := hm2.lt; obtain ⟨m0, m1⟩ := hm2.cells2)); rw [HG.out])); go_wp2_with fail; refine hK.out _ _ (by first | exact ⟨fun _ _ _ => rfl, (Below.refl _ _).drew⟩ | exact keep_step (by assumption) (Below.drew (Below.refl _ _)) (Nat.le_refl _) | exact keep_step (by assumption) (by assumption) (by first | omega | ((try simp only [World.size_drew, size_alloc]); omega) | (have := (‹(_ ∧ Below (w1.heap.size) w1 _)›).2.size; (try simp only [World.size_drew, size_alloc] at this ⊢); omega))) (fun hHeld => ?_); clear hK K; try simp only [Act.put, List.setIfInBounds_toArray, List.set_cons_zero, List.set_cons_succ])
    refine tkH (i := 9) (oi := ⟨some 17, _, _, _, _, _⟩) (v := ?_) rfl ?_ ?_
    rotate_left 1
    · (intro w hSw; (try dsimp only at hSw); go_simp; try (with_reducible rfl))
    try simp only [Act.put, List.setIfInBounds_toArray, List.set_cons_zero, List.set_cons_succ]
    refine tkH (i := 10) (oi := ⟨some 27, _, _, _, _, _⟩) (v := ?_) rfl ?_ ?_
    rotate_left 1
    · (intro w hSw; (try dsimp only at hSw); go_simp; try (with_reducible rfl))
    try simp only [Act.put, List.setIfInBounds_toArray, List.set_cons_zero, List.set_cons_succ]
    refine tkH (i := 11) (oi := ⟨some 28, _, _, _, _, _⟩) (v := ?_) rfl ?_ ?_
    rotate_left 1
    · (intro w hSw; (try dsimp only at hSw); go_simp; try (with_reducible rfl))
    try simp only [Act.put, List.setIfInBounds_toArray, List.set_cons_zero, List.set_cons_succ]
    refine tkH (i := 12) (oi := ⟨some 29, _, _, _, _, _⟩) (v := ?_) rfl ?_ ?_
    rotate_left 1
    · (intro w hSw; (try dsimp only at hSw); go_simp; try (with_reducible rfl))
    try simp only [Act.put, List.setIfInBounds_toArray, List.set_cons_zero, List.set_cons_succ]
    refine wpAnyH_ready (rs := [13]) (by kernel_rfl) (by simp) ?_
    refine AllReadyH.cons (o := ⟨some 5, _, _, _, _, _⟩) rfl (fun K hK => ?_) AllReadyH.nil
    focus (go_simp; go_wp2_with fail; refine hK.out _ _ (by first | (with_reducible exact keep_step (by assumption) (below1 _ _) (by first | omega | ((try simp only [World.size_drew, size_alloc]); omega) | (have := (‹(_ ∧ Below (w1.heap.size) w1 _)›).2.size; (try simp only [World.size_drew, size_alloc] at this ⊢); omega))) | (exact keep_step (by assumption) (below1 _ _) (by first | omega | ((try simp only [World.size_drew, size_alloc]); omega) | (have := (‹(_ ∧ Below (w1.heap.size) w1 _)›).2.size; (try simp only [World.size_drew, size_alloc] at this ⊢); omega)))) (fun hHeld => ?_); clear hK K; try simp only [Act.put, List.setIfInBounds_toArray, List.set_cons_zero, List.set_cons_succ])
    refine wpAnyH_ready (rs := [14]) (by kernel_rfl) (by simp) ?_
    refine AllReadyH.cons (o := ⟨none, _, _, _, _, _⟩) rfl (fun K hK => ?_) AllReadyH.nil
    focus (go_simp; go_wp2_with fail; refine hK.out _ _ (by first | exact keep_step (by assumption) (below1 _ _) (by first | omega | ((try simp only [World.size_drew, size_alloc]); omega) | (have := (‹(_ ∧ Below (w1.heap.size) w1 _)›).2.size; (try simp only [World.size_drew, size_alloc] at this ⊢); omega)) | (clear hHeld; exact keep_step (by assumption) (below1 _ _) (by first | omega | ((try simp only [World.size_drew, size_alloc]); omega) | (have := (‹(_ ∧ Below (w1.heap.size) w1 _)›).2.size; (try simp only [World.size_drew, size_alloc] at this ⊢); omega)))) (fun hHeld => ?_); clear hK K; try simp only [Act.put])
    refine tkH (i := 15) (oi := ⟨some 6, _, _, _, _, _⟩) (v := ?_) rfl ?_ ?_
    rotate_left 1
    · (intro w hSw; (try dsimp only at hSw); go_simp; try (with_reducible rfl))
    try simp only [Act.put, List.setIfInBounds_toArray, List.set_cons_zero, List.set_cons_succ]
    refine tkH (i := 16) (oi := ⟨some 7, _, _, _, _, _⟩) (v := ?_) rfl ?_ ?_
    rotate_left 1
    · (intro w hSw; (try dsimp only at hSw); go_simp; try (with_reducible rfl))
    try simp only [Act.put, List.setIfInBounds_toArray, List.set_cons_zero, List.set_cons_succ]
    refine wpAnyH_done (by kernel_rfl) ?_ _
    rotate_left 1
    refine AllReadyH.cons (o := ⟨some 5, _, _, _, _, _⟩) rfl (fun K hK => ?_) AllReadyH.nil
    focus (go_simp; go_wp2_with fail; refine hK.out _ _ (by first | (with_reducible exact keep_step (by assumption) (below1 _ _) (by first | omega | ((try simp only [World.size_drew, size_alloc]); omega) | (have := (‹(_ ∧ Below (w1.heap.size) w1 _)›).2.size; (try simp only [World.size_drew, size_alloc] at this ⊢); omega))) | (exact keep_step (by assumption) (below1 _ _) (by first | omega | ((try simp only [World.size_drew, size_alloc]); omega) | (have := (‹(_ ∧ Below (w1.heap.size) w1 _)›).2.size; (try simp only [World.size_drew, size_alloc] at this ⊢); omega)))) (fun hHeld => ?_); clear hK K; try simp only [Act.put, List.setIfInBounds_toArray, List.set_cons_zero, List.set_cons_succ])
    refine wpAnyH_ready (rs := [8]) (by kernel_rfl) (by simp) ?_
    refine AllReadyH.cons (o := ⟨some 26, _, _, _, _, _⟩) rfl (fun K hK => ?_) AllReadyH.nil
    focus (go_simp; (first | (go_at_call 129; refine (impl_GetMark bs a cap A (p : Int) _ (HP.out.2.below EByte.loc (‹_ ∧ Below (w1.heap.size) w1 _›).2 (Nat.le_of_lt hA1)) (by have := (‹_ ∧ Below (w1.heap.size) w1 _›).2.size; omega) ⟨by omega, by omega⟩ (by omega)).mono ?_; rintro e w2 ⟨rfl, hb2⟩; have hq0 := (‹_ ∧ Below (w1.heap.size) w1 _›).2.size; have hq1 := hb2.size; (try simp only [World.size_drew, size_alloc] at hq0 hq1); (try (have hm2 : Is w2 w1.heap.size 65 (cM 0 0) := (Is.new w1.drew (cM 0 0) 65).below hb2 (by simp); have fm := (fun i => hm2.frozen i); have lm := hm2.lt; obtain ⟨m0, m1⟩ := hm2.cells2)); rw [HG.out])); go_wp2_with fail; refine hK.out _ _ (by first | exact ⟨fun _ _ _ => rfl, (Below.refl _ _).drew⟩ | exact keep_step (by assumption) (Below.drew (Below.refl _ _)) (Nat.le_refl _) | exact keep_step (by assumption) (by assumption) (by first | omega | ((try simp only [World.size_drew, size_alloc]); omega) | (have := (‹(_ ∧ Below (w1.heap.size) w1 _)›).2.size; (try simp only [World.size_drew, size_alloc] at this ⊢); omega))) (fun hHeld => ?_); clear hK K; try simp only [Act.put, List.setIfInBounds_toArray, List.set_cons_zero, List.set_cons_succ])
    refine tkH (i := 9) (oi := ⟨some 17, _, _, _, _, _⟩) (v := ?_) rfl ?_ ?_
    rotate_left 1
    · (intro w hSw; (try dsimp only at hSw); go_simp; try (with_reducible rfl))
    try simp only [Act.put, List.setIfInBounds_toArray, List.set_cons_zero, List.set_cons_succ]
    refine tkH (i := 10) (oi := ⟨some 27, _, _, _, _, _⟩) (v := ?_) rfl ?_ ?_
    rotate_left 1
    · (intro w hSw; (try dsimp only at hSw); go_simp; try (with_reducible rfl))
    try simp only [Act.put, List.setIfInBounds_toArray, List.set_cons_zero, List.set_cons_succ]
    refine tkH (i := 11) (oi := ⟨some 28, _, _, _, _, _⟩) (v := ?_) rfl ?_ ?_
    rotate_left 1
    · (intro w hSw; (try dsimp only at hSw); go_simp; try (with_reducible rfl))
    try simp only [Act.put, List.setIfInBounds_toArray, List.set_cons_zero, List.set_cons_succ]
    refine tkH (i := 12) (oi := ⟨some 29, _, _, _, _, _⟩) (v := ?_) rfl ?_ ?_
    rotate_left 1
    · (intro w hSw; (try dsimp only at hSw); go_simp; try (with_reducible rfl))
    try simp only [Act.put, List.setIfInBounds_toArray, List.set_cons_zero, List.set_cons_succ]
    refine wpAnyH_ready (rs := [14]) (by kernel_rfl) (by simp) ?_
    refine AllReadyH.cons (o := ⟨none, _, _, _, _, _⟩) rfl (fun K hK => ?_) AllReadyH.nil
    focus (go_simp; go_wp2_with fail; refine hK.out _ _ (by exact keep_step (by assumption) (below2s _ _ _ _) (by omega)) (fun hHeld => ?_); clear hK K; try simp only [Act.put])
    refine tkH (i := 15) (oi := ⟨some 6, _, _, _, _, _⟩) (v := ?_) rfl ?_ ?_
    rotate_left 1
    · (intro w hSw; (try dsimp only at hSw); go_simp; try (with_reducible rfl))
    try simp only [Act.put, List.setIfInBounds_toArray, List.set_cons_zero, List.set_cons_succ]
    refine tkH (i := 16) (oi := ⟨some 7, _, _, _, _, _⟩) (v := ?_) rfl ?_ ?_
    rotate_left 1
    · (intro w hSw; (try dsimp only at hSw); go_simp; try (with_reducible rfl))
    try simp only [Act.put, List.setIfInBounds_toArray, List.set_cons_zero, List.set_cons_succ]
    refine wpAnyH_done (by kernel_rfl) ?_ _
    all_goals
      have hcu := (‹_ ∧ Below (w1.heap.size) w1 _›).2
      go_wp2_with fail
      go_meet
      case rel => first | exact ⟨w1.heap.size, rfl, rfl, rfl, Nat.le_refl _, Lib.hid ((hm2.set 0 _).set 1 _), Lib.hid hcu⟩ | exact ⟨w2.heap.size, rfl, rfl, rfl, by omega, Lib.hid (Is.new w2 _ _), Lib.hid hcu⟩
  case rest =>
    clear z0 z1 z2
    obtain ⟨M, rfl, rfl, rfl, hM1, HM, HBX⟩ := hcut
    rename World => wx
    have HPX := Lib.hid (HP.out.below HBX.out hA1)
    have HIX := Lib.hid (show Is wx R 26 zV from hR ▸ (HI.out.below HBX.out (by omega)))
    have HKX := Lib.hid (HK.out.grow (HBX.out.mono (by have := HK.out.size; omega)) (by omega))
    have HEX := Lib.hid ((HENV.out.step (HK.out.1)).step (HBX.out.mono (Nat.le_of_lt hA1)))
    clear HP HI HBL HENV HG
    have hmr := HMR.out
    have hmi := markR_in HU.out hmr
    have hLL := HL.out
    rw [rdP, hmr] at hLL
    dsimp only at hLL
    have HLL := Lib.hid hLL; clear hLL
    obtain rfl : G = ((k, n), (p : Int) + u, 0) := by rw [HGM.out, hmr]
    clear HL HGM hmr HMR
    dsimp only at HM ⊢
    obtain ⟨⟨hu1, hu2⟩, ⟨hn0, hn1⟩, hk⟩ := hmi
    rw [List.length_drop] at hu2
    have HK9 := Lib.hid hk; clear hk
    obtain ⟨q, hq⟩ : ∃ q, p + u = q := ⟨_, rfl⟩
    have hqi : (p : Int) + (u : Int) = (q : Int) := by omega
    have hql : q ≤ bs.length := by omega
    have HQ := Lib.hid hq; clear hq
    rw [hqi]
    have HPQ := Lib.hid (HPX.out.at (q : Int))
    have hMA : A < M := by omega
    have hMR : R < M := by omega
    have HMQ := Lib.hid (HM.out.miss A 1 (by omega) (.int .i64 (q : Int)))
    have HIQ := Lib.hid (HIX.out.miss A 1 (by omega) (.int .i64 (q : Int)))
    have HKQ := Lib.hid (HKX.out.trans (Kp.cell (A := A) (w := wx) 1 (.int .i64 (q : Int))))
    have HEQ := Lib.hid (HEX.out.step (Kp.cell (A := A) (w := wx) 1 (.int .i64 (q : Int))).1)
    have ff := fun i => HPX.out.1.frozen i
    obtain ⟨z0, z1, z2⟩ := HPX.out.1.cells3
    have hAx : A < wx.heap.size := HPX.out.lt
    go_upto_region 7 with (fail)
    have hAq : A < (wx.setCell ⟨A, 1, none⟩ (.int .i64 (q : Int))).heap.size := HPQ.out.lt
    have hMq : M < (wx.setCell ⟨A, 1, none⟩ (.int .i64 (q : Int))).heap.size := HMQ.out.lt
    have hRq : R < (wx.setCell ⟨A, 1, none⟩ (.int .i64 (q : Int))).heap.size := HIQ.out.lt
    clear ff z0 z1 z2 hAx HPX HIX HM HKX HEX
    generalize wx.setCell ⟨A, 1, none⟩ (.int .i64 (q : Int)) = wq at *
    obtain ⟨m0, m1⟩ := HMQ.out.cells2
    refine wp_region_held_drew (S := fun w' => (∀ b o, b < wq.heap.size → w'.cell? ⟨b, o, none⟩ = wq.cell? ⟨b, o, none⟩) ∧ Below (wq.heap.size) wq w') (by kernel_rfl) (by first | exact ⟨fun _ _ _ => rfl, (Below.refl _ _).drew⟩ | exact keep_step (by assumption) (Below.drew (Below.refl _ _)) (Nat.le_refl _) | exact keep_step (by assumption) (by assumption) (by first | omega | ((try simp only [World.size_drew, size_alloc]); omega) | (have := (‹(_ ∧ Below (wq.heap.size) wq _)›).2.size; (try simp only [World.size_drew, size_alloc] at this ⊢); omega))) (fun hHeld => ?_)
    refine tkH (i := 0) (oi := ⟨some 39, _, _, _, _, _⟩) (v := ?_) rfl ?_ ?_
    rotate_left 1
    · (intro w hSw; (try dsimp only at hSw); go_simp; try (with_reducible rfl))
    try simp only [Act.put, List.setIfInBounds_toArray, List.set_cons_zero, List.set_cons_succ]
    refine tkH (i := 1) (oi := ⟨some 40, _, _, _, _, _⟩) (v := ?_) rfl ?_ ?_
    rotate_left 1
    · (intro w hSw; (try dsimp only at hSw); go_simp; try (with_reducible rfl))
    try simp only [Act.put, List.setIfInBounds_toArray, List.set_cons_zero, List.set_cons_succ]
    refine tkH (i := 2) (oi := ⟨some 41, _, _, _, _, _⟩) (v := ?_) rfl ?_ ?_
    rotate_left 1
    · (intro w hSw; (try dsimp only at hSw); go_simp; try (with_reducible rfl))
    try simp only [Act.put, List.setIfInBounds_toArray, List.set_cons_zero, List.set_cons_succ]
    refine tkH (i := 3) (oi := ⟨some 42, _, _, _, _, _⟩) (v := ?_) rfl ?_ ?_
    rotate_left 1
    · (intro w hSw; (try dsimp only at hSw); go_simp; try (with_reducible rfl))
    try simp only [Act.put, List.setIfInBounds_toArray, List.set_cons_zero, List.set_cons_succ]
    refine tkH (i := 4) (oi := ⟨some 43, _, _, _, _, _⟩) (v := ?_) rfl ?_ ?_
    rotate_left 1
    · (intro w hSw; (try dsimp only at hSw); go_simp; try (with_reducible rfl))
    try simp only [Act.put, List.setIfInBounds_toArray, List.set_cons_zero, List.set_cons_succ]
    refine wpAnyH_ready (rs := [5]) (by kernel_rfl) (by simp) ?_
    refine AllReadyH.cons (o := ⟨some 8, _, _, _, _, _⟩) rfl (fun K hK => ?_) AllReadyH.nil
    go_simp
    go_wp2_with fail
    refine hK.out _ _ (by first | (with_reducible exact keep_step (by assumption) (below1 _ _) (by first | omega | ((try simp only [World.size_drew, size_alloc]); omega) | (have := (‹(_ ∧ Below (wq.heap.size) wq _)›).2.size; (try simp only [World.size_drew, size_alloc] at this ⊢); omega))) | (exact keep_step (by assumption) (below1 _ _) (by first | omega | ((try simp only [World.size_drew, size_alloc]); omega) | (have := (‹(_ ∧ Below (wq.heap.size) wq _)›).2.size; (try simp only [World.size_drew, size_alloc] at this ⊢); omega)))) (fun hHeld => ?_)
    clear hK K
    try simp only [Act.put, List.setIfInBounds_toArray, List.set_cons_zero, List.set_cons_succ]
    refine wpAnyH_ready (rs := [6]) (by kernel_rfl) (by simp) ?_
    refine AllReadyH.cons (o := ⟨none, _, _, _, _, _⟩) rfl (fun K hK => ?_) AllReadyH.nil
    focus (go_simp; go_wp2_with fail; refine hK.out _ _ (by first | exact keep_step (by assumption) (below1 _ _) (by first | omega | ((try simp only [World.size_drew, size_alloc]); omega) | (have := (‹(_ ∧ Below (wq.heap.size) wq _)›).2.size; (try simp only [World.size_drew, size_alloc] at this ⊢); omega)) | (clear hHeld; exact keep_step (by assumption) (below1 _ _) (by first | omega | ((try simp only [World.size_drew, size_alloc]); omega) | (have := (‹(_ ∧ Below (wq.heap.size) wq _)›).2.size; (try simp only [World.size_drew, size_alloc] at this ⊢); omega)))) (fun hHeld => ?_); clear hK K; try simp only [Act.put])
    refine tkH (i := 7) (oi := ⟨some 9, _, _, _, _, _⟩) (v := ?_) rfl ?_ ?_
    rotate_left 1
    · (intro w hSw; (try dsimp only at hSw); go_simp; try (with_reducible rfl))
    try simp only [Act.put, List.setIfInBounds_toArray, List.set_cons_zero, List.set_cons_succ]
    refine wpAnyH_done (by kernel_rfl) ?_ _
    clear hHeld
    clear m0 m1
    obtain ⟨V, hV⟩ : ∃ V, wq.heap.size = V := ⟨_, rfl⟩
    have HBV := Lib.hid (show Below wq.heap.size wq (wq.alloc (.cells #[Value.int IntKind.i64 k, Value.int IntKind.i64 0, Value.int IntKind.i64 0, Value.string ⟨#[]⟩, Value.slice none 0 0] 26)).drew from (below1 wq _).drew)
    have HVV := Lib.hid (show Is (wq.alloc (.cells #[Value.int IntKind.i64 k, Value.int IntKind.i64 0, Value.int IntKind.i64 0, Value.string ⟨#[]⟩, Value.slice none 0 0] 26)).drew V 26 #[Value.int IntKind.i64 k, Value.int IntKind.i64 0, Value.int IntKind.i64 0, Value.string ⟨#[]⟩, Value.slice none 0 0] from hV ▸ (Is.new wq #[Value.int IntKind.i64 k, Value.int IntKind.i64 0, Value.int IntKind.i64 0, Value.string ⟨#[]⟩, Value.slice none 0 0] 26).agree rfl)
    have HMV := Lib.hid (HMQ.out.below HBV.out hMq)
    have HPV := Lib.hid (HPQ.out.below HBV.out hAq)
    have HIV := Lib.hid (HIQ.out.below HBV.out hRq)
    have HKV := Lib.hid (Kp.grow HKQ.out (HBV.out.mono (Kp.size HKQ.out)) (Nat.le_of_lt hlA))
    have HEV := Lib.hid (HEQ.out.step (HBV.out.mono (Nat.le_of_lt hAq)))
    have hMV : M < V := by omega
    have hAV : A < V := by omega
    have hRV : R < V := by omega
    have hwR : w.heap.size ≤ R := by omega
    try rw [hV]
    clear HBV
    generalize (wq.alloc (.cells #[Value.int IntKind.i64 k, Value.int IntKind.i64 0, Value.int IntKind.i64 0, Value.string ⟨#[]⟩, Value.slice none 0 0] 26)).drew = wv at *
    clear HMQ HPQ HIQ HKQ HEQ hAq hMq hRq hV hR
    obtain ⟨m0, m1⟩ := HMV.out.cells2
    obtain ⟨v0, v1, v2, v3, v4⟩ := HVV.out.cells5
    obtain ⟨r0, r1, r2, r3, r4⟩ := HIV.out.cells5
    have fv := fun i => HVV.out.frozen i
    have fr := fun i => HIV.out.frozen i
    have lM := HMV.out.lt; have lV := HVV.out.lt; have lR := HIV.out.lt
    have hltA := HPV.out.lt
    by_cases hk4 : k = 4
    · skip
      subst hk4
      have HLE := Lib.hid (show L = .ok (.mk 4 (bitsFltD n).1.1 (bitsFltD n).1.2 ⟨#[]⟩ [], u) from by rw [← HLL.out, if_pos rfl])
      have HI2 := Lib.hid (bitsFltD_i64 n)
      clear HLL
      go_wp2_with fail
      refine (impl_BitsFlt n _ ⟨hn0, hn1⟩).mono ?_
      rintro e w3 ⟨rfl, hb3⟩
      obtain ⟨⟨⟨m, x⟩, ok⟩, hbf⟩ : ∃ r, bitsFltD n = r := ⟨_, rfl⟩
      rw [hbf] at HLE HI2 ⊢
      dsimp only at HLE HI2 ⊢
      clear hbf
      have hs3 := hb3.size
      have HV3 := Lib.hid (HVV.out.below hb3 lV)
      have HI3 := Lib.hid (HIV.out.below hb3 lR)
      have HP3 := Lib.hid (HPV.out.below hb3 hltA)
      have HK3 := Lib.hid (Kp.grow HKV.out (hb3.mono (Kp.size HKV.out)) (Nat.le_of_lt hlA))
      clear fv fr v0 v1 v2 v3 v4 r0 r1 r2 r3 r4 m0 m1 hb3
      go_upto_region 13 with (fail)
      have HF4 := Lib.hid (Is.new w3 (cF m x) 61)
      have HV4 := Lib.hid (HV3.out.alloc (.cells (cF m x) 61))
      have HI4 := Lib.hid (HI3.out.alloc (.cells (cF m x) 61))
      have HP4 := Lib.hid (HP3.out.below (below1 w3 (.cells (cF m x) 61)) HP3.out.lt)
      have HK4 := Lib.hid (HK3.out.trans (Kp.alloc (Nat.le_of_lt HP3.out.lt) (.cells (cF m x) 61)))
      obtain ⟨F, hF⟩ : ∃ F, w3.heap.size = F := ⟨_, rfl⟩
      rw [hF] at HF4
      have hVF : V < F := by omega
      try rw [hF]
      generalize w3.alloc (.cells (cF m x) 61) = w4 at *
      clear HV3 HI3 HP3 HK3 hF hs3
      obtain ⟨c0, c1⟩ := HF4.out.cells2
      obtain ⟨v0, v1, v2, v3, v4⟩ := HV4.out.cells5
      have fv := fun i => HV4.out.frozen i
      have lV4 := HV4.out.lt; have lF4 := HF4.out.lt
      go_region
      have HV5 := Lib.hid (((HV4.out.set 1 (.int .i64 m)).set 2 (.int .i64 x)).agree (w' := ((w4.setCell ⟨V, 1, none⟩ (.int .i64 m)).setCell ⟨V, 2, none⟩ (.int .i64 x)).drew) rfl)
      have HI5 := Lib.hid (((HI4.out.miss V 1 (by omega) (.int .i64 m)).miss V 2 (by omega) (.int .i64 x)).agree (w' := ((w4.setCell ⟨V, 1, none⟩ (.int .i64 m)).setCell ⟨V, 2, none⟩ (.int .i64 x)).drew) rfl)
      have HP5 := Lib.hid (((HP4.out.miss V 1 (by omega) (.int .i64 m)).miss V 2 (by omega) (.int .i64 x)).below ((Below.refl (A + 1) _).drew) (by omega))
      have HK5 := Lib.hid ((Kp.set (g := V) (Kp.set (g := V) HK4.out (by omega) (by omega) 1 (.int .i64 m)) (by omega) (by omega) 2 (.int .i64 x)).trans (show Kp A _ (((w4.setCell ⟨V, 1, none⟩ (.int .i64 m)).setCell ⟨V, 2, none⟩ (.int .i64 x)).drew) from ⟨(Below.refl _ _).drew, fun _ _ _ => rfl⟩))
      clear v0 v1 v2 v3 v4 c0 c1 fv lV4 lF4 HF4
      generalize ((w4.setCell ⟨V, 1, none⟩ (.int .i64 m)).setCell ⟨V, 2, none⟩ (.int .i64 x)).drew = w5 at *
      obtain ⟨v0, v1, v2, v3, v4⟩ := HV5.out.cells5
      obtain ⟨r0, r1, r2, r3, r4⟩ := HI5.out.cells5
      have fr := fun i => HI5.out.frozen i
      have lV5 := HV5.out.lt; have lR5 := HI5.out.lt
      go_wp2_with fail
      obtain ⟨e0, e1, e2, e3, e4, hbel, hold, hsz⟩ := out5 HI5.out.blk (.int .i64 4) (.int .i64 m) (.int .i64 x) (.string ⟨#[]⟩) (.slice none 0 0) R (Nat.le_refl _)
      refine bodyPost_ret (v := .agg #[.int .i64 4, .int .i64 m, .int .i64 x, .string ⟨#[]⟩, .slice none 0 0]) (by simp [results, Tryz.results87, go_sem, e0, e1, e2, e3, e4]) rfl (Or.inl ⟨_, u, none, 0, HLE.out, rfl, wfK2 HI2.out.1 HI2.out.2, by have := HQ.out; omega, ?_, App.nil _ _ _, Kp.grow HK5.out (hbel.mono (by omega)) (by omega)⟩)
      rw [HQ.out]
      exact HP5.out.below hbel hRA
    exact absurd HSEL.out hk4
end Go.Proofs.YtohfljaaaojjmaaGreatDoor
