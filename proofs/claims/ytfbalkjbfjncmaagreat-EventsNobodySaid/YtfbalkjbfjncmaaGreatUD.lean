/- EventsNobody: who is called of the example's listeners; the chapter's first example; the walk. No conditions. -/
import Derived.Test.YtfbalkjbfjncmaaGreatUC
namespace Go.Proofs.YtfbalkjbfjncmaaGreat
open Go Go.RowKit Go.BigFrame
set_option linter.unusedVariables false
set_option linter.unusedSimpArgs false

theorem wpList_append_run {P : Program} (w : World) {ops : Array Oper} {rest : List Oper} {o : Oper} {a : Act} {Q : Exit → Act → World → Prop}
    (hg : o.guard = none) (s x : Operand) (t : TypeId) (hop : o.op = Op.call { callee := Callee.builtin Builtin.append, args := #[s, x], argTypes := #[t, t] })
    (v u : Value) (hs : a.eval s = v) (hx : a.eval x = u) (v' : Value) (w' : World) (hr : (Builtin.append_ #[t, t] o.type #[v, u]).run P w = .ok v' w') (hK : wpList P ops Q rest (a.put o.dst v') w') :
    wpList P ops Q (o :: rest) a w := by
  refine wpList_plain hg fun K hK' => ?_
  unfold Oper.wp
  simp [execOp, hop, resolve, invoke, builtin, hs, hx, hr, Result.andThen]
  exact hK' _ _ hK
abbrev Cd := Int × Int × Int
theorem bcases (b : Bool) : b = true ∨ b = false := by cases b <;> simp
def cdC (c : Cd) : List Value := [.int .i64 c.1, .int .i64 c.2.1, .int .i64 c.2.2]
def cdCells (l : List Cd) : List Value := l.flatMap cdC
theorem cdCells_append (a b : List Cd) : cdCells (a ++ b) = cdCells a ++ cdCells b := List.flatMap_append
theorem infoCd : (Tryz.prog.info? 46).map (fun i => (i.zero, i.size, i.bytes)) = some (some (.agg #[.int .i64 0, .int .i64 0, .int .i64 0]), 3, 24) := by kernel_rfl
/-- Order's boxes, and what it has -/
structure AT (w0 : World) (g lb kb vb ob : Nat) (cs : List Cd) (w : World) : Prop where
  ext : Ext w0 w
  l : w.cell? ⟨lb, 0, none⟩ = some (.slice (some ⟨g, 0, none⟩) 5 5)
  k : w.cell? ⟨kb, 0, none⟩ = some (.int .i64 0)
  v : w.cell? ⟨vb, 0, none⟩ = some (.int .i64 3)
  f : FAt w g fiveL
  o : ∃ ov, w.heap[ob]? = some (.cells #[ov] 24 (0, 0)) ∧ RowP w (fun z => w0.heap.size ≤ z ∧ z ≠ ob ∧ z ≠ lb ∧ z ≠ kb ∧ z ≠ vb ∧ z ≠ g) 46 3 ov cs.length (cdCells cs)
  n : ob ≠ lb ∧ ob ≠ kb ∧ ob ≠ vb ∧ ob ≠ g
  lo : w0.heap.size ≤ ob
  lt : lb < w.heap.size ∧ kb < w.heap.size ∧ vb < w.heap.size ∧ g < w.heap.size ∧ ob < w.heap.size
section
variable {w0 w w' : World} {g lb kb vb ob : Nat} {cs : List Cd}
theorem AT.to (h : AT w0 g lb kb vb ob cs w) (x : Ext w w') : AT w0 g lb kb vb ob cs w' := by
  obtain ⟨ov, h1, h2⟩ := h.o
  have hs := x.size
  obtain ⟨a, b, c, d, e⟩ := h.lt
  exact ⟨h.ext.trans x, x.cell h.l, x.cell h.k, x.cell h.v, h.f.ext x, ⟨ov, x.block h1, h2.ext x⟩, h.n, h.lo, by omega, by omega, by omega, by omega, by omega⟩
theorem AT.push (h : AT w0 g lb kb vb ob cs w) (hlen : cs.length ≤ 1000) (c : Cd) :
    ∃ a0 n0 c0 a1 n1 c1 wB, w.heap[ob]? = some (.cells #[.slice a0 n0 c0] 24 (0, 0)) ∧ (Builtin.append_ #[24, 24] 24 #[.slice a0 n0 c0, .slice (some ⟨w.heap.size, 0, none⟩) 1 1]).run Tryz.prog (w.alloc (.cells #[.int .i64 c.1, .int .i64 c.2.1, .int .i64 c.2.2] 46)) = .ok (.slice a1 n1 c1) wB ∧
      wB.heap[ob]? = some (.cells #[.slice a0 n0 c0] 24 (0, 0)) ∧ AT w0 g lb kb vb ob (cs ++ [c]) (wB.setCell ⟨ob, 0, none⟩ (.slice a1 n1 c1)) := by
  obtain ⟨i0, hi, hz0, hz1, hz2⟩ := info_parts infoCd
  have hxa := (Ext.refl w).alloc (.cells #[.int .i64 c.1, .int .i64 c.2.1, .int .i64 c.2.2] 46)
  have hna := heap_alloc_new w (.cells #[.int .i64 c.1, .int .i64 c.2.1, .int .i64 c.2.2] 46)
  have hA := h.to hxa
  have hszA : (w.alloc (.cells #[.int .i64 c.1, .int .i64 c.2.1, .int .i64 c.2.2] 46)).heap.size = w.heap.size + 1 := by simp
  obtain ⟨ov, ho, hr⟩ := h.o
  obtain ⟨a0, c0, rfl, _⟩ := RowRd.len_of (RowP.rd hr)
  obtain ⟨w1, hw1⟩ : ∃ w1 : World, w1 = w.alloc (.cells #[.int .i64 c.1, .int .i64 c.2.1, .int .i64 c.2.2] 46) := ⟨_, rfl⟩
  rw [← hw1] at hxa hna hA hszA ⊢
  obtain ⟨v', wB, row, hrun, hr2, hg, hrow⟩ := run_append_row (P := Tryz.prog) w1 24 24 46 i0 _ 3 24 Tryz.underlying24 hi hz0 hz1 hz2 (by kernel_rfl) (by decide)
    (hr.ext hxa) ⟨w.heap.size, 0, none⟩ 1 1 (cdC c) rfl (by
      intro j u hj
      rw [Addr.add_lit, Nat.zero_add]
      refine cellOf hna ?_
      rw [← Array.getElem?_toList]; exact hj) (by
      intro u hu
      unfold cdC at hu
      simp only [List.mem_cons, List.not_mem_nil, or_false] at hu
      rcases hu with rfl | rfl | rfl <;> rfl) (by decide) (by unfold maxLen; omega) (by omega)
  obtain ⟨a1, c1, rfl, _⟩ := RowRd.len_of (RowP.rd hr2)
  have hs := hg.size
  obtain ⟨lt1, lt2, lt3, lt4, lt5⟩ := h.lt
  have keep : ∀ z, z < w1.heap.size → (z = ob ∨ z = lb ∨ z = kb ∨ z = vb ∨ z = g) → wB.heap[z]? = w1.heap[z]? := fun z hz hc => hg.block z hz fun e => by
    have := hrow z e.symm
    omega
  have hob : wB.heap[ob]? = some (.cells #[.slice a0 cs.length c0] 24 (0, 0)) := (keep ob (by omega) (.inl rfl)).trans (hxa.block ho)
  have hxB : Ext w0 wB := (h.ext.trans hxa).grown hg fun z hz => (hrow z hz).1
  have far : ∀ {b o : Nat} {y : Value}, b ≠ ob → w1.cell? ⟨b, o, none⟩ = some y → wB.heap[b]? = w1.heap[b]? → (wB.setCell ⟨ob, 0, none⟩ (.slice a1 (cs.length + 1) c1)).cell? ⟨b, o, none⟩ = some y := fun {b o y} hb hc hk => by
    rw [World.cell?_setCell_far _ _ _ _ (Ne.symm hb)]
    exact (World.cell?_of_block (a := ⟨b, o, none⟩) hk).trans hc
  obtain ⟨n1, n2, n3, n4⟩ := h.n
  refine ⟨a0, cs.length, c0, a1, cs.length + 1, c1, wB, ho, hrun, hob, hxB.setCell (p := ⟨ob, 0, none⟩) h.lo _, far (Ne.symm n1) hA.l (keep lb (by omega) (.inr (.inl rfl))), far (Ne.symm n2) hA.k (keep kb (by omega) (.inr (.inr (.inl rfl)))), far (Ne.symm n3) hA.v (keep vb (by omega) (.inr (.inr (.inr (.inl rfl))))), ⟨fun i x hx => ?_⟩, ⟨_, heap_setCell_same (i := 0) hob _, ?_⟩, h.n, h.lo, ?_⟩
  · obtain ⟨a, b, c', d⟩ := hA.f.out i x hx
    have hk := keep g (by omega) (.inr (.inr (.inr (.inr rfl))))
    exact ⟨far (Ne.symm n4) a hk, far (Ne.symm n4) b hk, far (Ne.symm n4) c' hk, far (Ne.symm n4) d hk⟩
  · rw [List.length_append, cdCells_append]
    have e1 : cdCells [c] = cdC c := by show cdC c ++ [] = _; rw [List.append_nil]
    rw [e1]
    refine RowP.move hr2 fun z hz => ⟨?_, ?_⟩
    · have hz1 : z ≠ ob := by rcases hz with hz | hz <;> omega
      exact heap_setCell_other (p := ⟨ob, 0, none⟩) _ hz1
    · rcases hz with hz | hz
      · exact hz
      · have := h.ext.size
        exact ⟨by omega, by omega, by omega, by omega, by omega, by omega⟩
  · have e : (wB.setCell ⟨ob, 0, none⟩ (.slice a1 (cs.length + 1) c1)).heap.size = wB.heap.size := by simp [World.setCell]
    rw [e]
    omega
end
def hitL (lv cp : Int) (x : Ls) : Bool := x.2 == cp && (x.1 == lv || (x.1 == -1 && lv == 2))
def hitsN (lv ph cp : Int) : Nat → List Cd
  | 0 => []
  | i + 1 => hitsN lv ph cp i ++ (match fiveL[i]? with
    | some x => if hitL lv cp x then [((i : Int), lv, ph)] else []
    | none => [])
theorem hitsN_len (lv ph cp : Int) : ∀ i, (hitsN lv ph cp i).length ≤ i
  | 0 => Nat.le_refl _
  | i + 1 => by
    have ih := hitsN_len lv ph cp i
    unfold hitsN
    rw [List.length_append]
    split
    · split
      · simp only [List.length_cons, List.length_nil]; omega
      · simp only [List.length_nil]; omega
    · simp only [List.length_nil]; omega
def AtIs (w0 : World) (g lb kb vb ob : Nat) (cs : List Cd) (e : Ending) (w' : World) : Prop := e = .returned (.tuple #[]) ∧ AT w0 g lb kb vb ob cs w'
set_option maxHeartbeats 4000000 in
set_option maxRecDepth 100000 in
theorem at_any {w0 w : World} {g lb kb vb ob : Nat} {cs : List Cd} (h : AT w0 g lb kb vb ob cs w) (hl : cs.length ≤ 500) (lv ph cp : Int) :
    Calls Tryz.prog 24 #[.int .i64 lv, .int .i64 ph, .int .i64 cp, .pointer (some ⟨lb, 0, none⟩), .pointer (some ⟨kb, 0, none⟩), .pointer (some ⟨vb, 0, none⟩), .pointer (some ⟨ob, 0, none⟩)] w (AtIs w0 g lb kb vb ob (cs ++ hitsN lv ph cp 5)) := by
  have HH := Lib.hid h
  have HL := Lib.hid hl
  have q := h.l
  clear h hl
  go_enter Tryz.func24, Tryz.ntmps24
  go_wp2_with fail
  clear q
  go_loopw [14] (fun iv wr => ∃ i : Nat, i ≤ 5 ∧ iv = .int .i64 i ∧ AT w0 g lb kb vb ob (cs ++ hitsN lv ph cp i) wr) (fun iv _ => 5 - (intOf iv).toNat)
  case atStart => exact ⟨0, Nat.zero_le _, rfl, by show AT w0 g lb kb vb ob (cs ++ []) _; rw [List.append_nil]; exact HH.out⟩
  case round =>
    obtain ⟨i, hin, rfl, hat⟩ := hrel
    have AR := Lib.hid hat
    clear hat
    by_cases hlt : i < 5
    · have e0 : decide ((i : Int) < 5) = true := decide_eq_true (by omega)
      obtain ⟨x, hx⟩ : ∃ x, fiveL[i]? = some x := ⟨_, List.getElem?_eq_getElem (show i < fiveL.length from hlt)⟩
      obtain ⟨q0, q1, q2, q3⟩ := AR.out.f.out i x hx
      have HX := Lib.hid hx
      obtain ⟨a, b⟩ := x
      dsimp only at q1 q2
      clear hx
      have xa := (Ext.refl wr).alloc (.cells #[.int .i64 0, .int .i64 a, .int .i64 b, .slice none 0 0] 50)
      have hb := heap_alloc_new wr (.cells #[.int .i64 0, .int .i64 a, .int .i64 b, .slice none 0 0] 50)
      have hq := AR.out.l
      go_upto_region 3 with fail
      obtain ⟨w1, hw1⟩ : ∃ W : World, W = wr.alloc (.cells #[.int .i64 0, .int .i64 a, .int .i64 b, .slice none 0 0] 50) := ⟨_, rfl⟩
      rw [← hw1] at xa hb ⊢
      clear hw1 q0 q1 q2 q3 hq
      obtain ⟨eb, heb⟩ : ∃ eb, wr.heap.size = eb := ⟨_, rfl⟩
      rw [heb] at hb ⊢
      clear heb
      have m0 := cellOf hb (i := 0) (v := .int .i64 0) rfl
      have m1 := cellOf hb (i := 1) (v := .int .i64 a) rfl
      have m2 := cellOf hb (i := 2) (v := .int .i64 b) rfl
      have A1 := Lib.hid (AR.out.to xa)
      have k0 := A1.out.k
      have v0 := A1.out.v
      clear xa hb
      have HSTEP : Hid (hitsN lv ph cp (i + 1) = hitsN lv ph cp i ++ (if hitL lv cp (a, b) then [((i : Int), lv, ph)] else [])) := Lib.hid (by
        show hitsN lv ph cp i ++ (match fiveL[i]? with
          | some x => if hitL lv cp x then [((i : Int), lv, ph)] else []
          | none => []) = _
        rw [HX.out])
      rcases bcases (b == cp) with c1 | c1
      · rcases bcases (a == lv) with c2 | c2
        · have hh : hitL lv cp (a, b) = true := by unfold hitL; rw [c1, c2]; rfl
          obtain ⟨a0, n0, c0, a1, n1, c1', wB, ho, hrun, hob, hp⟩ := A1.out.push (by rw [List.length_append]; have := HL.out; have := hitsN_len lv ph cp i; omega) ((i : Int), lv, ph)
          have HRUN := Lib.hid hrun
          have HP : Hid (AT w0 g lb kb vb ob (cs ++ hitsN lv ph cp (i + 1)) (wB.setCell ⟨ob, 0, none⟩ (.slice a1 n1 c1'))) := Lib.hid (by
            rw [HSTEP.out, if_pos hh, ← List.append_assoc]
            exact hp)
          have o0 := cellOf ho (i := 0) (v := .slice a0 n0 c0) rfl
          have o1 := cellOf hob (i := 0) (v := .slice a0 n0 c0) rfl
          have f1 := freeOf hob 0
          clear ho hrun hob hp hh
          go_wp2_with (at_builtin; refine wpList_append_run _ rfl _ _ 24 rfl _ _ rfl rfl _ _ HRUN.out ?_)
          go_roundw
          case rel => exact ⟨i + 1, by omega, by go_num, HP.out⟩
          case measure => simp [intOf]; omega
        · rcases bcases (a == -1) with c3 | c3
          · rcases bcases (lv == 2) with c4 | c4
            · have hh : hitL lv cp (a, b) = true := by unfold hitL; rw [c1, c2, c3, c4]; rfl
              obtain ⟨a0, n0, c0, a1, n1, c1', wB, ho, hrun, hob, hp⟩ := A1.out.push (by rw [List.length_append]; have := HL.out; have := hitsN_len lv ph cp i; omega) ((i : Int), lv, ph)
              have HRUN := Lib.hid hrun
              have HP : Hid (AT w0 g lb kb vb ob (cs ++ hitsN lv ph cp (i + 1)) (wB.setCell ⟨ob, 0, none⟩ (.slice a1 n1 c1'))) := Lib.hid (by
                rw [HSTEP.out, if_pos hh, ← List.append_assoc]
                exact hp)
              have o0 := cellOf ho (i := 0) (v := .slice a0 n0 c0) rfl
              have o1 := cellOf hob (i := 0) (v := .slice a0 n0 c0) rfl
              have f1 := freeOf hob 0
              clear ho hrun hob hp hh
              go_wp2_with (at_builtin; refine wpList_append_run _ rfl _ _ 24 rfl _ _ rfl rfl _ _ HRUN.out ?_)
              go_roundw
              case rel => exact ⟨i + 1, by omega, by go_num, HP.out⟩
              case measure => simp [intOf]; omega
            · have hh : hitL lv cp (a, b) = false := by unfold hitL; rw [c1, c2, c3, c4]; rfl
              have HP : Hid (AT w0 g lb kb vb ob (cs ++ hitsN lv ph cp (i + 1)) w1) := Lib.hid (by
                rw [HSTEP.out, hh, if_neg (by decide), List.append_nil]
                exact A1.out)
              clear hh
              go_wp2_with fail
              go_roundw
              case rel => exact ⟨i + 1, by omega, by go_num, HP.out⟩
              case measure => simp [intOf]; omega
          · have hh : hitL lv cp (a, b) = false := by unfold hitL; rw [c1, c2, c3]; rfl
            have HP : Hid (AT w0 g lb kb vb ob (cs ++ hitsN lv ph cp (i + 1)) w1) := Lib.hid (by
              rw [HSTEP.out, hh, if_neg (by decide), List.append_nil]
              exact A1.out)
            clear hh
            go_wp2_with fail
            go_roundw
            case rel => exact ⟨i + 1, by omega, by go_num, HP.out⟩
            case measure => simp [intOf]; omega
      · have hh : hitL lv cp (a, b) = false := by unfold hitL; rw [c1]; rfl
        have HP : Hid (AT w0 g lb kb vb ob (cs ++ hitsN lv ph cp (i + 1)) w1) := Lib.hid (by
          rw [HSTEP.out, hh, if_neg (by decide), List.append_nil]
          exact A1.out)
        clear hh
        go_wp2_with fail
        go_roundw
        case rel => exact ⟨i + 1, by omega, by go_num, HP.out⟩
        case measure => simp [intOf]; omega
    · obtain rfl : i = 5 := by omega
      go_wp2_with fail
      go_end0
      exact ⟨rfl, AR.out⟩
def ordA : Nat → List Cd
  | 0 => []
  | k + 1 => ordA k ++ hitsN k 1 1 5
def ord1 : List Cd := ordA 2 ++ hitsN 2 2 1 5
def ord2 : List Cd := ord1 ++ hitsN 2 2 0 5
def ord3 : List Cd := ord2 ++ hitsN 1 3 0 5
def ord4 : List Cd := ord3 ++ hitsN 0 3 0 5
theorem ord4_is : ord4 = [(4, 0, 1), (2, 1, 1), (1, 2, 2), (3, 2, 2), (0, 0, 3)] := by decide
theorem ordA_len : ∀ k, k ≤ 2 → (ordA k).length ≤ 20 := by decide
def OrderIs (w : World) (e : Ending) (w' : World) : Prop := ∃ g2 cap, e = .returned (.slice (some ⟨g2, 0, none⟩) 5 cap) ∧ Ext w w' ∧ ∀ j v, (cdCells ord4)[j]? = some v → w'.cell? ⟨g2, j, none⟩ = some v
set_option maxHeartbeats 4000000 in
set_option maxRecDepth 100000 in
theorem order_any {w : World} {g : Nat} (hf : FAt w g fiveL) (hg : g < w.heap.size) : Calls Tryz.prog 10 #[.slice (some ⟨g, 0, none⟩) 5 5, .int .i64 3, .int .i64 0] w (OrderIs w) := by
  obtain ⟨lb, hlb⟩ : ∃ lb, w.heap.size = lb := ⟨_, rfl⟩
  have k1 := heap_alloc_new w (.cells #[.slice (some ⟨g, 0, none⟩) 5 5] 36)
  have k2 := heap_alloc_new (w.alloc (.cells #[.slice (some ⟨g, 0, none⟩) 5 5] 36)) (.cells #[.int .i64 3] 3)
  have k3 := heap_alloc_new ((w.alloc (.cells #[.slice (some ⟨g, 0, none⟩) 5 5] 36)).alloc (.cells #[.int .i64 3] 3)) (.cells #[.int .i64 0] 3)
  have k4 := heap_alloc_new (((w.alloc (.cells #[.slice (some ⟨g, 0, none⟩) 5 5] 36)).alloc (.cells #[.int .i64 3] 3)).alloc (.cells #[.int .i64 0] 3)) (.cells #[.slice none 0 0] 24)
  simp only [World.size_alloc] at k2 k3 k4
  have x4 := ((((Ext.refl w).alloc (.cells #[.slice (some ⟨g, 0, none⟩) 5 5] 36)).alloc (.cells #[.int .i64 3] 3)).alloc (.cells #[.int .i64 0] 3)).alloc (.cells #[.slice none 0 0] 24)
  have hz : ((((w.alloc (.cells #[.slice (some ⟨g, 0, none⟩) 5 5] 36)).alloc (.cells #[.int .i64 3] 3)).alloc (.cells #[.int .i64 0] 3)).alloc (.cells #[.slice none 0 0] 24)).heap.size = w.heap.size + 4 := by simp
  have m1 := cellOf ((((Ext.refl _).alloc (.cells #[.int .i64 3] 3)).alloc (.cells #[.int .i64 0] 3)).alloc (.cells #[.slice none 0 0] 24) |>.block k1) (i := 0) (v := .slice (some ⟨g, 0, none⟩) 5 5) rfl
  have m2 := cellOf (((Ext.refl _).alloc (.cells #[.int .i64 0] 3)).alloc (.cells #[.slice none 0 0] 24) |>.block k2) (i := 0) (v := .int .i64 3) rfl
  have m3 := cellOf ((Ext.refl _).alloc (.cells #[.slice none 0 0] 24) |>.block k3) (i := 0) (v := .int .i64 0) rfl
  have m2' := cellOf (((Ext.refl _).alloc (.cells #[.int .i64 0] 3)) |>.block k2) (i := 0) (v := .int .i64 3) rfl
  obtain ⟨w3, hw3⟩ : ∃ w3 : World, w3 = ((w.alloc (.cells #[.slice (some ⟨g, 0, none⟩) 5 5] 36)).alloc (.cells #[.int .i64 3] 3)).alloc (.cells #[.int .i64 0] 3) := ⟨_, rfl⟩
  rw [← hw3] at m1 m2 m3 k4 hz x4 m2'
  have hz3 : w3.heap.size = w.heap.size + 3 := by rw [hw3]; simp
  obtain ⟨w5, hw5⟩ : ∃ w5 : World, w5 = w3.alloc (.cells #[.slice none 0 0] 24) := ⟨_, rfl⟩
  rw [← hw5] at m1 m2 m3 k4 hz x4
  rw [hlb] at m2' hz3
  rw [hlb] at m1 m2 m3 k4 hz hg
  obtain ⟨vb, hvb⟩ : ∃ vb, lb + 1 = vb := ⟨_, rfl⟩
  rw [hvb] at m2 m3 k4 m2'
  obtain ⟨kb, hkb⟩ : ∃ kb, vb + 1 = kb := ⟨_, rfl⟩
  rw [hkb] at m3 k4
  obtain ⟨ob, hob⟩ : ∃ ob, kb + 1 = ob := ⟨_, rfl⟩
  rw [hob] at k4
  have ST : Hid (AT w g lb kb vb ob [] w5) := Lib.hid ⟨x4, m1, m3, m2, hf.ext x4, ⟨.slice none 0 0, k4, ⟨rfl, .inl ⟨rfl, none, rfl⟩⟩⟩, by omega, by omega, by omega⟩
  have HW3 := Lib.hid hw3
  have HZ3 : Hid (w3.heap.size = ob) := Lib.hid (by omega)
  have M2 := Lib.hid m2'
  have HW5 := Lib.hid hw5
  have HLB := Lib.hid (And.intro hlb (And.intro hvb (And.intro hkb hob)))
  clear k1 k2 k3 k4 x4 hz m1 m2 m3 hf hg hw5 hlb hvb hkb hob hw3 m2' hz3
  go_enter Tryz.func10, Tryz.ntmps10
  go_upto_region 1 with fail
  rw [HLB.out.1, HLB.out.2.1, HLB.out.2.2.1, ← HW3.out]
  have v0 := M2.out
  go_upto_region 5 with fail
  rw [HZ3.out, ← HW5.out]
  clear v0
  have v0 := ST.out.v
  go_wp2_with fail
  clear v0
  go_loopw [20] (fun iv wr => ∃ k : Nat, k ≤ 2 ∧ iv = .int .i64 k ∧ AT w g lb kb vb ob (ordA k) wr) (fun iv _ => 2 - (intOf iv).toNat)
  case atStart => exact ⟨0, Nat.zero_le _, rfl, ST.out⟩
  case round =>
    obtain ⟨k, hk, rfl, hat⟩ := hrel
    have HAT := Lib.hid hat
    clear hat
    by_cases hlt : k < 2
    · have e0 : decide ((k : Int) < 2) = true := decide_eq_true (by omega)
      have HC := Lib.hid (at_any HAT.out (Nat.le_trans (ordA_len k hk) (by decide)) k 1 1)
      go_wp2_with (go_at_call 24; refine HC.out.mono ?_)
      rintro e w6 ⟨rfl, h6⟩
      have H6 := Lib.hid h6
      clear h6
      go_wp2_with fail
      go_roundw
      case rel => exact ⟨k + 1, by omega, by go_num, H6.out⟩
      case measure => simp [intOf]; omega
    · obtain rfl : k = 2 := by omega
      have HC := Lib.hid (at_any HAT.out (by decide) 2 2 1)
      have v0 := HAT.out.v
      go_wp2_with (go_at_call 24; refine HC.out.mono ?_)
      rintro e w6 ⟨rfl, h6⟩
      have HC2 := Lib.hid (at_any h6 (by decide) 2 2 0)
      replace v0 := h6.v
      clear h6
      go_wp2_with (go_at_call 24; refine HC2.out.mono ?_)
      rintro e w7 ⟨rfl, h7⟩
      replace v0 := h7.v
      have H7 : Hid (AT w g lb kb vb ob ord2 w7) := Lib.hid h7
      clear h7
      go_wp2_with fail
      clear v0
      go_loopw [10] (fun iv wr => (iv = .int .i64 1 ∧ AT w g lb kb vb ob ord2 wr) ∨ (iv = .int .i64 0 ∧ AT w g lb kb vb ob ord3 wr) ∨ (iv = .int .i64 (-1) ∧ AT w g lb kb vb ob ord4 wr)) (fun iv _ => (intOf iv + 1).toNat)
      case atStart => exact .inl ⟨rfl, H7.out⟩
      case round =>
        rename World => wj
        rcases hrel with ⟨rfl, hat⟩ | ⟨rfl, hat⟩ | ⟨rfl, hat⟩
        · have HD := Lib.hid (at_any hat (by decide) 1 3 0)
          clear hat
          go_wp2_with (go_at_call 24; refine HD.out.mono ?_)
          rintro e w8 ⟨rfl, h8⟩
          have H8 : Hid (AT w g lb kb vb ob ord3 w8) := Lib.hid h8
          clear h8
          go_wp2_with fail
          go_roundw
          case rel => exact .inr (.inl ⟨rfl, H8.out⟩)
          case measure => simp [intOf]
        · have HD := Lib.hid (at_any hat (by decide) 0 3 0)
          clear hat
          go_wp2_with (go_at_call 24; refine HD.out.mono ?_)
          rintro e w8 ⟨rfl, h8⟩
          have H8 : Hid (AT w g lb kb vb ob ord4 w8) := Lib.hid h8
          clear h8
          go_wp2_with fail
          go_roundw
          case rel => exact .inr (.inr ⟨rfl, H8.out⟩)
          case measure => simp [intOf]
        · obtain ⟨ov, ho, hr⟩ := hat.o
          have hl5 : ord4.length = 5 := by decide
          rw [hl5] at hr
          rcases hr.2 with ⟨h0, _⟩ | ⟨g2, cap, cur, rfl, _, h3, _, _, _, h7⟩
          · exact absurd h0 (by decide)
          · have o0 := cellOf ho (i := 0) (v := .slice (some ⟨g2, 0, none⟩) 5 cap) rfl
            have FIN : Hid (OrderIs w (.returned (.slice (some ⟨g2, 0, none⟩) 5 cap)) wj) := Lib.hid ⟨g2, cap, rfl, hat.ext, fun j v hv => by
              refine cellOf h3 ?_
              rw [← h7, List.getElem?_take] at hv
              split at hv
              · rw [← Array.getElem?_toList]; exact hv
              · cases hv⟩
            clear hat ho hr h3 h7 hl5
            go_wp2_with fail
            go_ret
            exact FIN.out
set_option maxHeartbeats 4000000 in
set_option maxRecDepth 100000 in
theorem awake27_any (w : World) : Calls Tryz.prog 7 #[] w (RBool true w) := by
  have H5 := Lib.hid (fun W => five_any W)
  go_enter Tryz.func7, Tryz.ntmps7
  go_wp2_with (go_at_call 18; refine (H5.out _).mono ?_)
  rintro e w1 ⟨g, rfl, hf, x1, hg⟩
  have HO := Lib.hid (order_any hf (by
    have h1 := (hf.out 0 (0, 0) rfl).1
    exact World.block_lt_of_cell? w1 ⟨g, 0 * 4, none⟩ h1))
  have X1 := Lib.hid x1
  clear hf x1 hg
  go_wp2_with (go_at_call 10; refine HO.out.mono ?_)
  rintro e w2 ⟨g2, cap, rfl, x2, hc⟩
  rw [ord4_is] at hc
  have q0 := hc 0 (.int .i64 4) rfl
  have q1 := hc 1 (.int .i64 0) rfl
  have q2 := hc 2 (.int .i64 1) rfl
  have q3 := hc 3 (.int .i64 2) rfl
  have q4 := hc 4 (.int .i64 1) rfl
  have q5 := hc 5 (.int .i64 1) rfl
  have q6 := hc 6 (.int .i64 1) rfl
  have q7 := hc 7 (.int .i64 2) rfl
  have q8 := hc 8 (.int .i64 2) rfl
  have q9 := hc 9 (.int .i64 3) rfl
  have q12 := hc 12 (.int .i64 0) rfl
  have q13 := hc 13 (.int .i64 0) rfl
  have q14 := hc 14 (.int .i64 3) rfl
  have X2 := Lib.hid (X1.out.trans x2)
  clear x2 hc
  go_wp2_with (go_at_call 18; refine (H5.out _).mono ?_)
  rintro e w3 ⟨g3, rfl, hf3, x3, _⟩
  have HM := Lib.hid (may_of (indexL_any g3 fiveL (by decide) (by decide) w3 hf3))
  have X3 := Lib.hid (X2.out.trans x3)
  clear x3 hf3 q0 q1 q2 q3 q4 q5 q6 q7 q8 q9 q12 q13 q14
  go_wp2_with (go_at_call 8; refine HM.out.mono ?_)
  rintro e w4 ⟨rfl, x4⟩
  go_wp2_with fail
  go_ret
  exact ⟨rfl, X3.out.trans x4⟩
set_option maxHeartbeats 4000000 in
set_option maxRecDepth 100000 in
theorem nobody27_walk (w : World) : Calls Tryz.prog 3 #[] w (RBool true w) := by
  have HD := Lib.hid (fun W => dispatch27 (w := W) (v := .pointer none) (.inl rfl))
  have HN := Lib.hid (fun W => new27 W)
  have HY := Lib.hid (fun W => way27 (w := W) (v := .pointer none) (.inl rfl))
  have HAW := Lib.hid (fun W => awake27_any W)
  unfold evZ at HD
  go_enter Tryz.func3, Tryz.ntmps3
  go_wp2_with (go_at_call 4; refine (HD.out _).mono ?_)
  rintro e w1 ⟨rfl, x1⟩
  unfold toldZ
  have X1 := Lib.hid (x1.alloc (.cells #[.int .i64 0, .string ⟨#[]⟩, .string ⟨#[]⟩, .slice none 0 0, .int .i64 0, .int .i64 0] 26))
  clear x1
  go_wp2_with (go_at_call 5; refine (HN.out _).mono ?_)
  rintro e w2 ⟨v, rfl, hv, x2⟩
  have HV := Lib.hid hv
  have X2 := Lib.hid (X1.out.trans x2)
  clear hv x2
  obtain ⟨lb, tb, rfl, h0, h1⟩ := HV.out
  have HL := Lib.hid (show Lv0 w2 (.pointer (some ⟨lb, 0, none⟩)) from .inr ⟨lb, tb, rfl, h0, h1⟩)
  clear h0 h1 HV
  have HD2 := Lib.hid (dispatch27 HL.out)
  unfold evZ at HD2
  go_wp2_with (go_at_call 4; refine HD2.out.mono ?_)
  rintro e w3 ⟨rfl, x3⟩
  unfold toldZ
  have xc := x3.alloc (.cells #[.int .i64 0, .string ⟨#[]⟩, .string ⟨#[]⟩, .slice none 0 0, .int .i64 0, .int .i64 0] 26)
  have X4 := Lib.hid xc
  clear x3 xc
  go_wp2_with (go_at_call 6; refine (HY.out _).mono ?_)
  rintro e w5 ⟨rfl, x5⟩
  have X5 := Lib.hid (X4.out.trans x5)
  clear x5
  have HY2 := Lib.hid (way27 (HL.out.ext X5.out))
  go_wp2_with (go_at_call 6; refine HY2.out.mono ?_)
  rintro e w6 ⟨rfl, x6⟩
  have X6 := Lib.hid ((X2.out.trans X5.out).trans x6)
  clear x6
  go_wp2_with (go_at_call 7; refine (HAW.out _).mono ?_)
  rintro e w7 ⟨rfl, x7⟩
  go_wp2_with fail
  go_ret
  exact ⟨rfl, X6.out.trans x7⟩
end Go.Proofs.YtfbalkjbfjncmaaGreat
