/- PointsBack: the law answers true at every input. No conditions. -/
import Derived.Test.YtpachfdibhnobaaPtsE
namespace Go.Proofs.Ytpachfdibhnobaa
open Go Go.RowKit Go.BigFrame
set_option linter.unusedVariables false
def smallB (z : Int) : Prop := 0 ≤ z ∧ z ≤ 10000
theorem okB {z : Int} (h : smallB z) : okI z := ⟨by have := h.1; omega, by have := h.2; omega⟩
theorem okR {z : Int} (h1 : -1 ≤ z) (h2 : z ≤ 30000) : okI z := ⟨h1, by omega⟩
theorem cells_7 {w : World} {b : Nat} {x0 x1 x2 x3 x4 x5 x6 : Int} (h0 : w.cell? ⟨b, 0, none⟩ = some (.int .i64 x0)) (h1 : w.cell? ⟨b, 1, none⟩ = some (.int .i64 x1)) (h2 : w.cell? ⟨b, 2, none⟩ = some (.int .i64 x2)) (h3 : w.cell? ⟨b, 3, none⟩ = some (.int .i64 x3)) (h4 : w.cell? ⟨b, 4, none⟩ = some (.int .i64 x4)) (h5 : w.cell? ⟨b, 5, none⟩ = some (.int .i64 x5)) (h6 : w.cell? ⟨b, 6, none⟩ = some (.int .i64 x6)) :
    ∀ (i : Nat) z, [x0, x1, x2, x3, x4, x5, x6][i]? = some z → w.cell? ⟨b, i, none⟩ = some (.int .i64 z) := by
  intro j u h
  match j, h with
  | 0, h => simpa [h0] using h
  | 1, h => simpa [h1] using h
  | 2, h => simpa [h2] using h
  | 3, h => simpa [h3] using h
  | 4, h => simpa [h4] using h
  | 5, h => simpa [h5] using h
  | 6, h => simpa [h6] using h
theorem ins_rem {n a p q : Int} (hp : True) : remA n (insA n a p q 1) p q = a := by
  unfold remA insA; (repeat' split) <;> omega
theorem insA_ok {n a p q : Int} (ha : smallB a) : okI (insA n a p q 1) := by
  have h1 := ha.1
  have h2 := ha.2
  unfold insA okI; split <;> omega
theorem inserted_is {X n a p q m : Int} (w : World) (e : X = insA n a p q m) (hn : okI n) (ha : okI a) (hp : okI p) (hq : okI q) (hm : okI m) :
    Calls Try.prog 9 #[pl n a, .int .i64 p, .int .i64 q, .int .i64 m] w (RPlace n X w) := by
  rw [e]; exact inserted_any n a p q m w hn ha hp hq hm
theorem removed_is {X n a p q : Int} (w : World) (e : X = remA n a p q) (hn : okI n) (ha : okI a) (hp : okI p) (hq : okI q) :
    Calls Try.prog 10 #[pl n a, .int .i64 p, .int .i64 q, .bool false] w (RPlace n X w) := by
  rw [e]; exact removed_any n a p q w hn ha hp hq
theorem place_is {P : Program} {f : FuncId} {args : Array Value} {w : World} {n a n' a' : Int} (h : Calls P f args w (RPlace n a w)) (hn : n = n') (ha : a = a') : Calls P f args w (RPlace n' a' w) := by
  subst hn ha; exact h
/-- a contract, kept from the walk: a place is answered -/
def Ans (f : FuncId) (args : Array Value) (n a : Int) : Prop := ∀ w, Calls Try.prog f args w (RPlace n a w)
theorem Ans.out {f : FuncId} {args : Array Value} {n a : Int} (h : Ans f args n a) (w : World) : Calls Try.prog f args w (RPlace n a w) := h w
/-- the tests of the law's second step -/
def Step2 (N a d k m f wn : Int) : Prop :=
  ¬ 0 < m ∨ 0 < m ∧ ((N == d) = false ∧ (wn == f) = false ∨ (N == d) = true ∧ ¬ k < a ∧ (wn == f) = false ∨ (N == d) = true ∧ k < a ∧ a < k + m ∧ (wn == f) = true ∨ (N == d) = true ∧ k < a ∧ ¬ a < k + m ∧ (wn == f) = false)
/-- .. and of its third -/
def Step3 (N a d k f sn : Int) : Prop :=
  (N == d) = false ∧ (sn == f) = false ∨ (N == d) = true ∧ ¬ k < a ∧ (sn == f) = false ∨ (N == d) = true ∧ k < a ∧ (sn == f) = true
set_option maxRecDepth 100000 in
set_option maxHeartbeats 4000000 in
theorem back_walk (N a d k m f i wn wa sn sa ua : Int) (w : World) (hN : smallB N) (ha : smallB a) (hd : smallB d) (hk : smallB k) (hm : smallB m) (hf : smallB f) (hi : smallB i)
    (hfd : (f == d) = false) (hfN : (f == N) = false)
    (hw : Ans 13 #[pl N a, .int .i64 d, .int .i64 k, .int .i64 m, .int .i64 f] wn wa)
    (hu : 0 < m → Ans 14 #[pl wn wa, .int .i64 f, .int .i64 m, .int .i64 d, .int .i64 k] N a)
    (h2 : Hid (Step2 N a d k m f wn))
    (hs : Ans 15 #[pl N a, .int .i64 d, .int .i64 k, .int .i64 f, .int .i64 20000, .int .i64 i] sn sa)
    (hj : Ans 16 #[pl sn sa, .int .i64 d, .int .i64 f, .int .i64 k, .int .i64 20000, .int .i64 (i + 1)] N a)
    (h3 : Hid (Step3 N a d k f sn))
    (hs2 : Ans 15 #[pl 20000 a, .int .i64 d, .int .i64 k, .int .i64 f, .int .i64 20000, .int .i64 i] 20000 ua)
    (hj2 : Ans 16 #[pl 20000 ua, .int .i64 d, .int .i64 f, .int .i64 k, .int .i64 20000, .int .i64 (i + 1)] 20000 a)
    (h4 : Hid (decide (a ≤ i) = true ∧ (ua == a) = true ∨ decide (a ≤ i) = false ∧ (ua == a) = false)) (h5 : (ua == i + 1) = false) :
    Calls Try.prog 5 #[pl N a, .int .i64 d, .int .i64 k, .int .i64 m, .int .i64 f, .int .i64 i] w (RBool true w) := by
  have b1 := hk.1
  have b2 := hk.2
  have b3 := hm.1
  have b4 := hm.2
  have b5 := hi.1
  have b6 := hi.2
  have b7 := ha.1
  have b8 := ha.2
  go_enter Try.func5, Try.ntmps5
  go_wp2_with fail
  refine (small_yes _ [N, a, d, k, m, f, i] _ _ _ rfl (by simp) ?_ (cells_7 ?_ ?_ ?_ ?_ ?_ ?_ ?_)).mono ?_
  rotate_right
  · rintro e w1 ⟨rfl, hx1⟩
    have c0 := hx1.cell (b := w.heap.size) (o := 0) (v := .int .i64 N) (by simp [go_sem])
    have c1 := hx1.cell (b := w.heap.size) (o := 1) (v := .int .i64 a) (by simp [go_sem])
    have x1 : Ext w w1 := Ext.trans (((Ext.refl w).alloc _).alloc _) hx1
    clear hx1
    go_wp2_with fail
    refine (inserted_is _ rfl (okB hN) (okB ha) (okB hd) (okB hk) (okR (by omega) (by omega))).mono ?_
    rintro e w2 ⟨rfl, hx⟩
    replace c0 := hx.cell c0
    replace c1 := hx.cell c1
    replace x1 := x1.trans hx
    clear hx
    go_wp2_with fail
    refine (removed_is _ (ins_rem trivial).symm (okB hN) (insA_ok ha) (okB hd) (okB hk)).mono ?_
    rintro e w3 ⟨rfl, hx⟩
    replace c0 := hx.cell c0
    replace c1 := hx.cell c1
    replace x1 := x1.trans hx
    clear hx
    have l0 := cell_lt c0
    go_wp2_with fail
    refine (hw.out _).mono ?_
    rintro e w4 ⟨rfl, hx⟩
    replace c0 := hx.cell (((Ext.refl _).alloc _).cell c0)
    replace c1 := hx.cell (((Ext.refl _).alloc _).cell c1)
    replace x1 := (x1.alloc _).trans hx
    clear hx
    go_upto_region 7 with fail
    obtain ⟨wz, hwz⟩ : ∃ wz : World, wz = w4.alloc (.cells #[.int .i64 wn, .int .i64 wa] 25) := ⟨_, rfl⟩
    have z0 : wz.cell? ⟨w4.heap.size, 0, none⟩ = some (.int .i64 wn) := by simp [go_sem, hwz]
    have z1 : wz.cell? ⟨w4.heap.size, 1, none⟩ = some (.int .i64 wa) := by simp [go_sem, hwz]
    replace c0 : wz.cell? ⟨w.heap.size, 0, none⟩ = some (.int .i64 N) := by rw [hwz]; exact ((Ext.refl _).alloc _).cell c0
    replace c1 : wz.cell? ⟨w.heap.size, 1, none⟩ = some (.int .i64 a) := by rw [hwz]; exact ((Ext.refl _).alloc _).cell c1
    replace x1 : Ext w wz := by rw [hwz]; exact x1.alloc _
    rw [← hwz]
    clear hwz
    go_cut [93] (fun s wx => s = .bool false ∧ Ext wz wx)
    case first =>
      have z0' := fun u : ExtOf wz => u.ext.cell z0
      have z1' := fun u : ExtOf wz => u.ext.cell z1
      have c0' := fun u : ExtOf wz => u.ext.cell c0
      have c1' := fun u : ExtOf wz => u.ext.cell c1
      have hH := h2.out
      clear h2 h3 h4
      rcases hH with q0 | ⟨q0, q⟩
      · refine wp_region_ext (by kernel_rfl) (by kernel_rfl) ?_
        repeat (go_big_quiet_step (fail))
        refine wpQuiet_nil ?_
        rintro _ ⟨u, rfl⟩
        go_wp2_with fail
        go_meet
        exact ⟨rfl, u.ext⟩
      · have hu' := hu q0
        clear hu
        rcases q with ⟨q1, q2⟩ | ⟨q1, q2, q3⟩ | ⟨q1, q2, q3, q4⟩ | ⟨q1, q2, q3, q4⟩
        all_goals
          refine wp_region_ext (by kernel_rfl) (by kernel_rfl) ?_
          repeat (go_big_quiet_step ((go_at_call 14; exact inExt (hu'.out _))))
          refine wpQuiet_nil ?_
          rintro _ ⟨u, rfl⟩
          go_wp2_with fail
          go_meet
          exact ⟨rfl, u.ext⟩
    case rest =>
      obtain ⟨rfl, hx⟩ := hcut
      replace c0 := hx.cell c0
      replace c1 := hx.cell c1
      replace x1 := x1.trans hx
      clear hx z0 z1
      go_wp2_with fail
      refine (hs.out _).mono ?_
      rintro e w5 ⟨rfl, hx⟩
      replace c0 := hx.cell c0
      replace c1 := hx.cell c1
      replace x1 := x1.trans hx
      clear hx
      go_upto_region 10 with fail
      obtain ⟨wy, hwy⟩ : ∃ wy : World, wy = w5.alloc (.cells #[.int .i64 sn, .int .i64 sa] 25) := ⟨_, rfl⟩
      have z0 : wy.cell? ⟨w5.heap.size, 0, none⟩ = some (.int .i64 sn) := by simp [go_sem, hwy]
      have z1 : wy.cell? ⟨w5.heap.size, 1, none⟩ = some (.int .i64 sa) := by simp [go_sem, hwy]
      replace c0 : wy.cell? ⟨w.heap.size, 0, none⟩ = some (.int .i64 N) := by rw [hwy]; exact ((Ext.refl _).alloc _).cell c0
      replace c1 : wy.cell? ⟨w.heap.size, 1, none⟩ = some (.int .i64 a) := by rw [hwy]; exact ((Ext.refl _).alloc _).cell c1
      replace x1 : Ext w wy := by rw [hwy]; exact x1.alloc _
      rw [← hwy]
      clear hwy
      go_cut [125] (fun s wx => s = .bool false ∧ Ext wy wx)
      case first =>
        have z0' := fun u : ExtOf wy => u.ext.cell z0
        have z1' := fun u : ExtOf wy => u.ext.cell z1
        have c0' := fun u : ExtOf wy => u.ext.cell c0
        have c1' := fun u : ExtOf wy => u.ext.cell c1
        have hH := h3.out
        clear h2 h3 h4
        rcases hH with ⟨q1, q2⟩ | ⟨q1, q2, q3⟩ | ⟨q1, q2, q3⟩
        all_goals
          refine wp_region_ext (by kernel_rfl) (by kernel_rfl) ?_
          repeat (go_big_quiet_step ((go_at_call 16; exact inExt (hj.out _))))
          refine wpQuiet_nil ?_
          rintro _ ⟨u, rfl⟩
          go_wp2_with fail
          go_meet
          exact ⟨rfl, u.ext⟩
      case rest =>
        obtain ⟨rfl, hx⟩ := hcut
        replace c0 := hx.cell c0
        replace c1 := hx.cell c1
        replace x1 := x1.trans hx
        clear hx z0 z1
        go_wp2_with fail
        refine (lawAt_any _ _ _).mono ?_
        rintro e w6 ⟨rfl, hx⟩
        replace c0 := hx.cell c0
        replace c1 := hx.cell c1
        replace x1 := x1.trans hx
        clear hx
        go_wp2_with fail
        refine (hs2.out _).mono ?_
        rintro e w7 ⟨rfl, hx⟩
        replace c0 := hx.cell c0
        replace c1 := hx.cell c1
        replace x1 := x1.trans hx
        clear hx
        go_upto_region 13 with fail
        obtain ⟨wx, hwx⟩ : ∃ wx : World, wx = w7.alloc (.cells #[.int .i64 20000, .int .i64 ua] 25) := ⟨_, rfl⟩
        have z0 : wx.cell? ⟨w7.heap.size, 0, none⟩ = some (.int .i64 20000) := by simp [go_sem, hwx]
        have z1 : wx.cell? ⟨w7.heap.size, 1, none⟩ = some (.int .i64 ua) := by simp [go_sem, hwx]
        replace c1 : wx.cell? ⟨w.heap.size, 1, none⟩ = some (.int .i64 a) := by rw [hwx]; exact ((Ext.refl _).alloc _).cell c1
        replace x1 : Ext w wx := by rw [hwx]; exact x1.alloc _
        rw [← hwx]
        clear hwx
        have z0' := fun u : ExtOf wx => u.ext.cell z0
        have z1' := fun u : ExtOf wx => u.ext.cell z1
        have c1' := fun u : ExtOf wx => u.ext.cell c1
        have hH := h4.out
        clear h2 h3 h4
        rcases hH with ⟨q1, q2⟩ | ⟨q1, q2⟩
        all_goals
          refine wp_region_ext (by kernel_rfl) (by kernel_rfl) ?_
          repeat (go_big_quiet_step (first
            | (go_at_call 8; exact inExt (lawAt_any _ _ _))
            | (go_at_call 16; exact inExt (hj2.out _))
            | (go_at_call 7; exact inExt (awake_any _))))
          refine wpQuiet_nil ?_
          rintro _ ⟨u, rfl⟩
          go_wp2
          go_ret
          exact ⟨rfl, x1.trans u.ext⟩
  · intro z hz; simp at hz; rcases hz with rfl | rfl | rfl | rfl | rfl | rfl | rfl <;> assumption
  all_goals simp [go_sem]

/-- the answers of the law's calls, way by way -/
theorem wrapped_is (N a d k m f : Int) (hN : smallB N) (ha : smallB a) (hd : smallB d) (hk : smallB k) (hm : smallB m) (hf : smallB f) (hfd : (f == d) = false) (hfN : (f == N) = false) :
    ∃ wn wa, Ans 13 #[pl N a, .int .i64 d, .int .i64 k, .int .i64 m, .int .i64 f] wn wa ∧
      (0 < m → Ans 14 #[pl wn wa, .int .i64 f, .int .i64 m, .int .i64 d, .int .i64 k] N a) ∧ Step2 N a d k m f wn := by
  have nfd : f ≠ d := by simpa using hfd
  have nfN : f ≠ N := by simpa using hfN
  have hNf : (N == f) = false := by simp; exact Ne.symm nfN
  obtain ⟨b1, b2⟩ := id ha
  obtain ⟨b3, b4⟩ := id hk
  obtain ⟨b5, b6⟩ := id hm
  by_cases h : N = d ∧ k < a
  · obtain ⟨rfl, hlt⟩ := h
    by_cases h2 : a < k + m
    · refine ⟨f, a - k, fun w => wrapped_in _ _ _ _ _ _ w (okB hN) (okB ha) (okB hN) (okB hk) (okB hm) (okB hf) rfl hlt h2, fun h0 w => place_is (unwrapped_in _ _ _ _ _ _ w (okB hf) (okR (by omega) (by omega)) (okB hf) (okB hm) (okB hN) (okB hk) (by simp)) rfl (by omega), ?_⟩
      unfold Step2
      by_cases h0 : 0 < m
      · exact .inr ⟨h0, .inr (.inr (.inl ⟨by simp, hlt, h2, by simp⟩))⟩
      · exact .inl h0
    · refine ⟨N, a - m + 1, fun w => wrapped_far _ _ _ _ _ _ w (okB hN) (okB ha) (okB hN) (okB hk) (okB hm) (okB hf) rfl hlt h2, fun h0 w => place_is (unwrapped_yes _ _ _ _ _ _ w (okB hN) (okR (by omega) (by omega)) (okB hf) (okB hm) (okB hN) (okB hk) hNf rfl (by omega)) rfl (by omega), ?_⟩
      unfold Step2
      by_cases h0 : 0 < m
      · exact .inr ⟨h0, .inr (.inr (.inr ⟨by simp, hlt, h2, hNf⟩))⟩
      · exact .inl h0
  · refine ⟨N, a, fun w => wrapped_no _ _ _ _ _ _ w (okB hN) (okB ha) (okB hd) (okB hk) (okB hm) (okB hf) h, fun h0 w => unwrapped_no _ _ _ _ _ _ w (okB hN) (okB ha) (okB hf) (okB hm) (okB hd) (okB hk) hNf h, ?_⟩
    unfold Step2
    by_cases h0 : 0 < m
    · by_cases hd' : N = d
      · exact .inr ⟨h0, .inr (.inl ⟨by simp [hd'], fun hk' => h ⟨hd', hk'⟩, hNf⟩)⟩
      · exact .inr ⟨h0, .inl ⟨by simpa using hd', hNf⟩⟩
    · exact .inl h0

theorem cut_is (N a d k f i : Int) (hN : smallB N) (ha : smallB a) (hd : smallB d) (hk : smallB k) (hf : smallB f) (hi : smallB i) (hfd : (f == d) = false) (hfN : (f == N) = false) :
    ∃ sn sa, Ans 15 #[pl N a, .int .i64 d, .int .i64 k, .int .i64 f, .int .i64 20000, .int .i64 i] sn sa ∧
      Ans 16 #[pl sn sa, .int .i64 d, .int .i64 f, .int .i64 k, .int .i64 20000, .int .i64 (i + 1)] N a ∧ Step3 N a d k f sn := by
  have nfN : f ≠ N := by simpa using hfN
  have hNf : (N == f) = false := by simp; exact Ne.symm nfN
  obtain ⟨b1, b2⟩ := id ha
  obtain ⟨b3, b4⟩ := id hk
  obtain ⟨b5, b6⟩ := id hi
  obtain ⟨b7, b8⟩ := id hN
  have o1 : okI 20000 := okR (by omega) (by omega)
  have o2 : okI (i + 1) := okR (by omega) (by omega)
  by_cases h : N = d ∧ k < a
  · obtain ⟨rfl, hlt⟩ := h
    refine ⟨f, a - k, fun w => splitText_here _ _ _ _ _ _ _ w (okB hN) (okB ha) (okB hN) (okB hk) (okB hf) o1 (okB hi) rfl hlt, fun w => place_is (joinText_in _ _ _ _ _ _ _ w (okB hf) (okR (by omega) (by omega)) (okB hN) (okB hf) (okB hk) o1 o2 (by simp)) rfl (by omega), ?_⟩
    exact .inr (.inr ⟨by simp, hlt, by simp⟩)
  · refine ⟨N, a, fun w => splitText_no _ _ _ _ _ _ _ w (okB hN) (okB ha) (okB hd) (okB hk) (okB hf) o1 (okB hi) h (by omega) (by omega), fun w => joinText_far _ _ _ _ _ _ _ w (okB hN) (okB ha) (okB hd) (okB hf) (okB hk) o1 o2 hNf (by simp; omega), ?_⟩
    by_cases hd' : N = d
    · exact .inr (.inl ⟨by simp [hd'], fun hk' => h ⟨hd', hk'⟩, hNf⟩)
    · exact .inl ⟨by simpa using hd', hNf⟩

theorem up_is (a d k f i : Int) (ha : smallB a) (hd : smallB d) (hk : smallB k) (hf : smallB f) (hi : smallB i) :
    ∃ ua, Ans 15 #[pl 20000 a, .int .i64 d, .int .i64 k, .int .i64 f, .int .i64 20000, .int .i64 i] 20000 ua ∧
      Ans 16 #[pl 20000 ua, .int .i64 d, .int .i64 f, .int .i64 k, .int .i64 20000, .int .i64 (i + 1)] 20000 a ∧
      (decide (a ≤ i) = true ∧ (ua == a) = true ∨ decide (a ≤ i) = false ∧ (ua == a) = false) ∧ (ua == i + 1) = false := by
  obtain ⟨b1, b2⟩ := id ha
  obtain ⟨b3, b4⟩ := id hk
  obtain ⟨b5, b6⟩ := id hi
  obtain ⟨b7, b8⟩ := id hd
  obtain ⟨b9, b10⟩ := id hf
  have o1 : okI 20000 := okR (by omega) (by omega)
  have o2 : okI (i + 1) := okR (by omega) (by omega)
  have hne : ((20000 : Int) == f) = false := by simp; omega
  by_cases h : i < a
  · refine ⟨a + 1, fun w => splitText_up _ _ _ _ _ _ _ w o1 (okB ha) (okB hd) (okB hk) (okB hf) o1 (okB hi) (by omega) (by omega) rfl h, fun w => place_is (joinText_yes _ _ _ _ _ _ _ w o1 (okR (by omega) (by omega)) (okB hd) (okB hf) (okB hk) o1 o2 hne (by simp; omega) rfl (by omega)) rfl (by omega), .inr ⟨by simp; omega, by simp; omega⟩, by simp; omega⟩
  · refine ⟨a, fun w => splitText_no _ _ _ _ _ _ _ w o1 (okB ha) (okB hd) (okB hk) (okB hf) o1 (okB hi) (by omega) (by omega) (by omega), fun w => joinText_no _ _ _ _ _ _ _ w o1 (okB ha) (okB hd) (okB hf) (okB hk) o1 o2 hne (by simp; omega) rfl (by omega), .inl ⟨by simp; omega, by simp⟩, by simp; omega⟩

set_option maxRecDepth 100000 in
set_option maxHeartbeats 1000000 in
theorem back_off (N a d k m f i : Int) (w : World) (hs : ∃ z ∈ [N, a, d, k, m, f, i], ¬ smallB z) :
    Calls Try.prog 5 #[pl N a, .int .i64 d, .int .i64 k, .int .i64 m, .int .i64 f, .int .i64 i] w (RBool true w) := by
  have HS := Lib.hid hs
  clear hs
  go_enter Try.func5, Try.ntmps5
  go_wp2_with fail
  refine (small_no _ [N, a, d, k, m, f, i] _ _ _ rfl (by simp) HS.out (cells_7 ?_ ?_ ?_ ?_ ?_ ?_ ?_)).mono ?_
  rotate_right
  · rintro e w1 ⟨rfl, hx1⟩
    have x1 : Ext w w1 := Ext.trans (((Ext.refl w).alloc _).alloc _) hx1
    clear hx1
    go_wp2_with (go_at_call 7; refine (awake_any _).mono ?_; rintro e w' ⟨rfl, hx⟩; replace x1 := x1.trans hx; clear hx)
    go_ret
    exact ⟨rfl, x1⟩
  all_goals simp [go_sem]
set_option maxRecDepth 100000 in
set_option maxHeartbeats 1000000 in
theorem back_same (N a d k m f i : Int) (w : World) (hs : ∀ z ∈ [N, a, d, k, m, f, i], smallB z) (hf : (f == d) = true ∨ (f == d) = false ∧ (f == N) = true) :
    Calls Try.prog 5 #[pl N a, .int .i64 d, .int .i64 k, .int .i64 m, .int .i64 f, .int .i64 i] w (RBool true w) := by
  have HS := Lib.hid hs
  clear hs
  rcases hf with hf | ⟨hf, hf2⟩
  all_goals
    go_enter Try.func5, Try.ntmps5
    go_wp2_with fail
    refine (small_yes _ [N, a, d, k, m, f, i] _ _ _ rfl (by simp) HS.out (cells_7 ?_ ?_ ?_ ?_ ?_ ?_ ?_)).mono ?_
    rotate_right
    · rintro e w1 ⟨rfl, hx1⟩
      have c0 := hx1.cell (b := w.heap.size) (o := 0) (v := .int .i64 N) (by simp [go_sem])
      have x1 : Ext w w1 := Ext.trans (((Ext.refl w).alloc _).alloc _) hx1
      clear hx1
      go_wp2_with (go_at_call 7; refine (awake_any _).mono ?_; rintro e w' ⟨rfl, hx⟩; replace x1 := x1.trans hx; clear hx)
      go_ret
      exact ⟨rfl, x1⟩
    all_goals simp [go_sem]

theorem back_law (N : Int) (_ : (Lit.int .i64 N).wf = true) (a : Int) (_ : (Lit.int .i64 a).wf = true) (d : Int) (_ : (Lit.int .i64 d).wf = true) (k : Int) (_ : (Lit.int .i64 k).wf = true) (m : Int) (_ : (Lit.int .i64 m).wf = true) (f : Int) (_ : (Lit.int .i64 f).wf = true) (i : Int) (_ : (Lit.int .i64 i).wf = true) (w : World) :
    Calls Try.prog 5 #[pl N a, .int .i64 d, .int .i64 k, .int .i64 m, .int .i64 f, .int .i64 i] w fun e w' => e = .returned (.bool true) ∧ Below w.heap.size w w' := by
  by_cases hs : ∀ z ∈ [N, a, d, k, m, f, i], smallB z
  · cases hfd : (f == d)
    · cases hfN : (f == N)
      · have hN := hs N (by simp)
        have ha := hs a (by simp)
        have hd := hs d (by simp)
        have hk := hs k (by simp)
        have hm := hs m (by simp)
        have hf := hs f (by simp)
        have hi := hs i (by simp)
        obtain ⟨wn, wa, h1, h2, h3⟩ := wrapped_is N a d k m f hN ha hd hk hm hf hfd hfN
        obtain ⟨sn, sa, h4, h5, h6⟩ := cut_is N a d k f i hN ha hd hk hf hi hfd hfN
        obtain ⟨ua, h7, h8, h9, h10⟩ := up_is a d k f i ha hd hk hf hi
        exact back_walk N a d k m f i wn wa sn sa ua w hN ha hd hk hm hf hi hfd hfN h1 h2 h3 h4 h5 h6 h7 h8 h9 h10
      · exact back_same N a d k m f i w hs (.inr ⟨hfd, hfN⟩)
    · exact back_same N a d k m f i w hs (.inl hfd)
  · refine back_off N a d k m f i w ?_
    exact Classical.byContradiction fun hc => hs fun z hz => Classical.byContradiction fun h => hc ⟨z, hz, h⟩
end Go.Proofs.Ytpachfdibhnobaa
