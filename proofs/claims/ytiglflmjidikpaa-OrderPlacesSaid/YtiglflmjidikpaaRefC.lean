/- quillworkref08: New, and add where a number is free. -/
import Derived.Test.YtiglflmjidikpaaRefB
namespace Go.Proofs.Ytiglflmjidikpaa
open Go Go.RowKit Go.BigFrame
set_option linter.unusedVariables false
set_option linter.unusedSimpArgs false

/-- the host, in new memory -/
def RNewIs (w : World) (T : Tr) (e : Ending) (w' : World) : Prop := ∃ rb, e = .returned (.pointer (some ⟨rb, 0, none⟩)) ∧ Ext w w' ∧ RefOn w' (fun b => w.heap.size ≤ b) rb T
theorem rHost {w w' : World} {cap deep : Int} {s0 : ByteArray} (h0 : s0 = ByteArray.empty) (h1 : w'.heap[w.heap.size]? = some (.cells #[.int .i64 1, .int .i64 1, .int .i64 (-1), .slice none 0 0, .string s0, .slice none 0 0] 132 (0, 0)))
    (h2 : w'.heap[w.heap.size + 1]? = some (.cells #[.int .i64 cap, .int .i64 deep, .slice (some ⟨w.heap.size, 0, none⟩) 1 1] 94 (0, 0))) (x : Ext w w') : RefOn w' (fun b => w.heap.size ≤ b) (w.heap.size + 1) (hostOf cap deep) := by
  refine ⟨{ w with heap := #[] }, w.heap.size, ⟨by omega, ⟨1, _, h2, Nat.le_refl _, by decide, h1, by simp, fun j o ho => ?_⟩, fun q y hq => ?_⟩, Nat.le_succ _, Nat.le_refl _, fun q y hq => ?_⟩
  · have hj : j < 1 := (List.getElem?_eq_some_iff.1 ho).1
    obtain rfl : j = 0 := by omega
    cases ho
    subst h0
    exact ⟨_, _, rfl, rfl, rfl, rfl, rfl, rfl, ⟨rfl, none, 0, rfl, Nat.le_refl _, fun _ => ⟨rfl, rfl⟩, fun a h => by cases h⟩, ⟨rfl, none, 0, rfl, Nat.le_refl _, fun _ => ⟨rfl, rfl⟩, fun a h => by cases h⟩⟩
  · simp [World.cell?] at hq
  · simp [World.cell?] at hq
set_option maxRecDepth 100000 in
set_option maxHeartbeats 1000000 in
theorem rNew_ok (cap deep : Int) (h1 : 1 ≤ cap) (h2 : cap ≤ 2000) (h3 : 0 ≤ deep) (h4 : deep ≤ 40) (w : World) :
    Calls Try.prog 39 #[.int .i64 cap, .int .i64 deep] w (RNewIs w (hostOf cap deep)) := by
  go_enter Try.func39, Try.ntmps39
  go_wp2_with fail
  go_ret
  refine ⟨w.heap.size + 1, by simp, ((Ext.refl w).alloc _).alloc _, ?_⟩
  refine rHost (s0 := ⟨#[]⟩) rfl ?_ ?_ (((Ext.refl w).alloc _).alloc _)
  · exact Ext.block ((Ext.refl _).alloc _) (heap_alloc_new w _)
  · have h := heap_alloc_new (w.alloc (.cells #[.int .i64 1, .int .i64 1, .int .i64 (-1), .slice none 0 0, .string ⟨#[]⟩, .slice none 0 0] 132)) (.cells #[.int .i64 cap, .int .i64 deep, .slice (some ⟨w.heap.size, 0, none⟩) 1 1] 94)
    simpa using h
set_option maxRecDepth 100000 in
set_option maxHeartbeats 1000000 in
theorem rNew_no (cap deep : Int) (h : ¬ (1 ≤ cap ∧ cap ≤ 2000 ∧ 0 ≤ deep ∧ deep ≤ 40)) (w : World) :
    Calls Try.prog 39 #[.int .i64 cap, .int .i64 deep] w (RSame (.pointer none) w) := by
  by_cases a1 : cap < 1
  · clear h
    go_enter Try.func39, Try.ntmps39
    go_wp2_with fail
    go_ret
    exact ⟨rfl, rfl⟩
  · by_cases a2 : 2000 < cap
    · clear h
      go_enter Try.func39, Try.ntmps39
      go_wp2_with fail
      go_ret
      exact ⟨rfl, rfl⟩
    · by_cases a3 : deep < 0
      · clear h
        go_enter Try.func39, Try.ntmps39
        go_wp2_with fail
        go_ret
        exact ⟨rfl, rfl⟩
      · have a4 : 40 < deep := by omega
        clear h
        go_enter Try.func39, Try.ntmps39
        go_wp2_with fail
        go_ret
        exact ⟨rfl, rfl⟩
theorem Chg.grown {F : Nat → Prop} {a b c : World} {row : Option Nat} (h : Chg F a b) (hg : b.grownBy c row) (hr : ∀ k, row = some k → k < a.heap.size → F k) : Chg F a c :=
  ⟨hg.os.trans h.os, hg.tape.trans h.tape, hg.output.trans h.output, Nat.le_trans h.size hg.size, fun x hx hn => (hg.block x (Nat.lt_of_lt_of_le hx h.size) (fun e => hn (hr x e.symm hx))).trans (h.rest x hx hn)⟩
abbrev noRec0 : Value := .agg #[.int .i64 0, .int .i64 0, .int .i64 0, .slice none 0 0, .string ⟨#[]⟩, .slice none 0 0]
theorem infoR : (Try.prog.info? 132).map (fun i => (i.zero, i.size, i.bytes)) = some (some noRec0, 6, 88) := by kernel_rfl
theorem cells_six {w : World} {b : Nat} {c0 c1 c2 c3 c4 c5 : Value} {t : TypeId} (h : w.heap[b]? = some (.cells #[c0, c1, c2, c3, c4, c5] t (0, 0))) : ∀ (j : Nat) u, [c0, c1, c2, c3, c4, c5][j]? = some u → w.cell? (Addr.add ⟨b, 0, none⟩ j) = some u := by
  intro j u hu
  rw [Addr.add_lit, Nat.zero_add]
  refine cellOf h ?_
  simpa using hu
/-- one more record has come, by an append -/
theorem more_fin {w wr wA ga : World} {rb g : Nat} {T : Tr} {F : Nat → Prop} (h : RefAt w ga rb g T) (h1 : F rb) (h2 : F g) (h3 : ∀ q y, ga.cell? q = some y → F q.block) (x : Ext w wr) {ob : Obj} {nd : Nd} {aa : Option Addr} {ac : Nat} {cur : Array Value}
    (hcur : w.heap[g]? = some (.cells cur 132 (0, 0))) {v' : Value} {row : Option Nat}
    (hr : RowP wA (fun b => b = g ∨ (wr.drew.alloc ob).heap.size ≤ b) 132 6 v' (T.nodes.length + 1) (cur.toList.take (T.nodes.length * 6) ++ recVals nd.tag nd.parent (.slice aa nd.attrs.length ac) nd.text (.slice none 0 0)))
    (hg : (wr.drew.alloc ob).grownBy wA row) (hrow : ∀ k, row = some k → k = g) (hk : nd.kids = []) (ha : RowP wr (fun b => w.heap.size + 1 ≤ b) 44 2 (.slice aa nd.attrs.length ac) nd.attrs.length (attrCells nd.attrs)) :
    RAft F w rb { T with count := T.count + 1, nodes := T.nodes ++ [some nd] } (wA.setCell ⟨rb, 2, none⟩ v') := by
  have hrw := h.row
  obtain ⟨cap0, cur0, b1, _, _, b4, _, _⟩ := hrw
  have hrl := (Array.getElem?_eq_some_iff.1 b1).1
  have hgl := (Array.getElem?_eq_some_iff.1 b4).1
  have xs := x.size
  rcases hr.2 with ⟨h0, _⟩ | ⟨g', cap', cur', rfl, q2, q3, q4, q5, q6, q7⟩
  · omega
  have hsz : (wr.drew.alloc ob).heap.size = wr.heap.size + 1 := by simp
  have xq : Ext w (wr.drew.alloc ob) := (x.drew).alloc _
  have bA : wA.heap[rb]? = _ := (hg.block rb (by omega) (fun e => h.ne (hrow rb e.symm))).trans (xq.block b1)
  have hne : g' ≠ rb := fun e => by rcases q2 with q2 | q2; exact h.ne (e.symm.trans q2); omega
  have hne2 : g' ≠ w.heap.size := fun e => by rcases q2 with q2 | q2 <;> omega
  refine h.more h1 h2 h3 (nd := nd) (g' := g') (cap' := cap') (cur' := cur') (av := .slice aa nd.attrs.length ac) (kv := .slice none 0 0) ?_ rfl rfl rfl ?_ ?_ q4 q5 q6 (by rcases q2 with q2 | q2; exact .inl q2; exact .inr (by omega)) (fun c hc => ?_) fun hG => ⟨?_, ?_⟩
  · exact (Chg.grown (F := fun b => b = rb ∨ b = g) (Chg.ext xq) hg fun k hk _ => .inr (hrow k hk)).set (p := ⟨rb, 2, none⟩) (fun _ => .inl rfl) _
  · exact heap_setCell_same bA _
  · exact (heap_setCell_other (p := ⟨rb, 2, none⟩) _ hne).trans q3
  · rw [hcur] at hc
    cases hc
    exact q7
  · refine RowP.rd (RowP.move ha.below (p' := fun _ => True) fun b hb => ⟨?_, trivial⟩)
    obtain ⟨hb', hbl⟩ : w.heap.size + 1 ≤ b ∧ b < wr.heap.size := hb
    · have hbg : b ≠ g' := fun e => by rcases q2 with q2 | q2 <;> omega
      rw [joinG_new (by omega) hbg, heap_setCell_other (p := ⟨rb, 2, none⟩) _ (show b ≠ rb by omega), hg.block b (by omega) (fun e => by have := hrow b e.symm; omega)]
      exact Below.block ((Ext.refl wr).drew.alloc ob) b hbl
  · rw [hk]
    exact ⟨rfl, none, 0, rfl, Nat.le_refl _, fun _ => ⟨rfl, rfl⟩, fun a h => by cases h⟩
def RInt (F : Nat → Prop) (w : World) (rb : Nat) (x : Int) (T : Tr) (e : Ending) (w' : World) : Prop := e = .returned (.int .i64 x) ∧ RAft F w rb T w'
set_option maxRecDepth 100000 in
set_option maxHeartbeats 1000000 in
theorem radd {w : World} {F : Nat → Prop} {rb : Nat} {T : Tr} (hR : RefOn w F rb T) (hlen : T.nodes.length ≤ 2000)
    (tag : Int) (text : ByteArray) (av : Value) (attrs : List (ByteArray × ByteArray)) (ha : RowRd w 2 av attrs.length (attrCells attrs)) (hn : attrs.length ≤ 60000) :
    Calls Try.prog 128 #[.pointer (some ⟨rb, 0, none⟩), .agg #[.int .i64 0, .int .i64 tag, .int .i64 0, av, .string text, .slice none 0 0]] w (RInt F w rb T.newId (T.put ⟨tag, attrs, text, [], -1⟩)) := by
  obtain ⟨ao, cap0, hav, _⟩ := ha.len_of
  subst hav
  obtain ⟨ga, g, hat, hF1, hF2, hF3⟩ := hR.out
  have HAT := Lib.hid hat
  have HFF := Lib.hid (And.intro hF1 (And.intro hF2 hF3))
  obtain ⟨cap, cur, b1, b2, b3, b4, b5, b6⟩ := hat.row
  have nrg : rb ≠ g := hat.ne
  have nrg' := Ne.symm nrg
  have c2 : w.cell? ⟨rb, 2, none⟩ = some (.slice (some ⟨g, 0, none⟩) T.nodes.length cap) := cellOf b1 rfl
  have f2 := freeOf b1 2
  have lrb := (Array.getElem?_eq_some_iff.1 b1).1
  have lg := (Array.getElem?_eq_some_iff.1 b4).1
  have xm := (Ext.refl w).alloc (.cells #[.int .i64 0, .int .i64 tag, .int .i64 0, .slice ao attrs.length cap0, .string text, .slice none 0 0] 132)
  have bm := heap_alloc_new w (.cells #[.int .i64 0, .int .i64 tag, .int .i64 0, .slice ao attrs.length cap0, .string text, .slice none 0 0] 132)
  have zm : (w.alloc (.cells #[.int .i64 0, .int .i64 tag, .int .i64 0, .slice ao attrs.length cap0, .string text, .slice none 0 0] 132)).heap.size = w.heap.size + 1 := by simp
  have HA := Lib.hid ha
  have B6 := Lib.hid b6
  have B4 := Lib.hid b4
  have B1 := Lib.hid b1
  clear hat hF1 hF2 hF3 b6 ha hR b1 b4
  go_enter Try.func128, Try.ntmps128
  go_upto_region 1 with fail
  obtain ⟨w1, hw1⟩ : ∃ w1 : World, w1 = w.alloc (.cells #[.int .i64 0, .int .i64 tag, .int .i64 0, .slice ao attrs.length cap0, .string text, .slice none 0 0] 132) := ⟨_, rfl⟩
  rw [← hw1] at xm bm zm ⊢
  clear hw1
  have e1 := heap_setCell_same (i := 0) bm (.int .i64 1)
  have e2 := heap_setCell_same (i := 2) e1 (.int .i64 (-1))
  have x2 : Ext w ((w1.setCell ⟨w.heap.size, 0, none⟩ (.int .i64 1)).setCell ⟨w.heap.size, 2, none⟩ (.int .i64 (-1))) := (xm.setCell (Nat.le_refl _) _).setCell (Nat.le_refl _) _
  have z2 : ((w1.setCell ⟨w.heap.size, 0, none⟩ (.int .i64 1)).setCell ⟨w.heap.size, 2, none⟩ (.int .i64 (-1))).heap.size = w.heap.size + 1 := by simpa [World.setCell] using zm
  have q0 := cellOf bm (i := 0) rfl
  have p0 := freeOf bm 0
  have q02 := cellOf bm (i := 2) rfl
  have p02 := freeOf bm 2
  go_upto_region 2 with fail
  obtain ⟨w2, hw2⟩ : ∃ w2 : World, w2 = (w1.setCell ⟨w.heap.size, 0, none⟩ (.int .i64 1)).setCell ⟨w.heap.size, 2, none⟩ (.int .i64 (-1)) := ⟨_, rfl⟩
  rw [← hw2] at e2 x2 z2
  rw [← hw2]
  clear hw2 e1 q0 p0 q02 p02 bm zm xm
  replace e2 : w2.heap[w.heap.size]? = some (.cells #[.int .i64 1, .int .i64 tag, .int .i64 (-1), .slice ao attrs.length cap0, .string text, .slice none 0 0] 132 (0, 0)) := e2
  have q3 := cellOf e2 (i := 3) (v := .slice ao attrs.length cap0) rfl
  have p3 := freeOf e2 3
  have xe := (Ext.refl w2).alloc (.cells #[] 44)
  obtain ⟨va, wA, hrun, hra, hxa⟩ := append_empty (w := w2.alloc (.cells #[] 44)) (b := w2.heap.size) (HA.out.ext (x2.trans xe)) hn (attrCells_one _)
  obtain ⟨aa', acap', rfl, _⟩ := hra.rd.len_of
  have hra' := RowP.imp hra (q := fun g => w.heap.size + 1 ≤ g) fun g _ hg => by have h : (w2.alloc (.cells #[] 44)).heap.size ≤ g := hg; simp at h; show w.heap.size + 1 ≤ g; omega
  have hxa1 := xe.trans hxa
  have ce1 := xe.cell q3
  have cA1 := hxa1.cell q3
  have fA1 := hxa1.free (cell_lt q3) p3
  have bA := hxa1.block e2
  have hs3 : w.heap.size ≠ w2.heap.size := by omega
  have hs3' := Ne.symm hs3
  have HZ2 := Lib.hid z2
  clear z2
  have HRUN := Lib.hid hrun
  have HRA := Lib.hid hra'
  have XA := Lib.hid (x2.trans hxa1)
  have BA := Lib.hid bA
  clear hra hra' hxa xe hrun hxa1 e2 x2 bA
  go_wp2_with (at_builtin; refine wpList_append_run _ rfl _ _ 27 rfl _ _ rfl rfl _ _ HRUN.out ?_)
  have e3 := heap_setCell_same (i := 3) BA.out (.slice aa' attrs.length acap')
  replace e3 : (wA.setCell ⟨w.heap.size, 3, none⟩ (.slice aa' attrs.length acap')).heap[w.heap.size]? = some (.cells #[.int .i64 1, .int .i64 tag, .int .i64 (-1), .slice aa' attrs.length acap', .string text, .slice none 0 0] 132 (0, 0)) := e3
  have x3 : Ext w (wA.setCell ⟨w.heap.size, 3, none⟩ (.slice aa' attrs.length acap')) := XA.out.setCell (Nat.le_refl _) _
  have hro : RowP (wA.setCell ⟨w.heap.size, 3, none⟩ (.slice aa' attrs.length acap')) (fun g => w.heap.size + 1 ≤ g) 44 2 (.slice aa' attrs.length acap') attrs.length (attrCells attrs) :=
    RowP.move HRA.out fun g hg => ⟨heap_setCell_other (p := ⟨w.heap.size, 3, none⟩) _ (by have h : w.heap.size + 1 ≤ g := hg; show g ≠ w.heap.size; omega), hg⟩
  obtain ⟨ws, hws⟩ : ∃ ws : World, ws = wA.setCell ⟨w.heap.size, 3, none⟩ (.slice aa' attrs.length acap') := ⟨_, rfl⟩
  rw [← hws] at e3 x3 hro ⊢
  clear hws ce1 cA1 fA1 q3 p3 hs3 hs3'
  have X3 := Lib.hid x3
  have HRO := Lib.hid hro
  have d0 := cellOf e3 (i := 0) (v := .int .i64 1) rfl
  have d1 := cellOf e3 (i := 1) (v := .int .i64 tag) rfl
  have d2 := cellOf e3 (i := 2) (v := .int .i64 (-1)) rfl
  have d3 := cellOf e3 (i := 3) (v := .slice aa' attrs.length acap') rfl
  have d4 := cellOf e3 (i := 4) (v := .string text) rfl
  have d5 := cellOf e3 (i := 5) (v := .slice none 0 0) rfl
  replace c2 := x3.cell c2
  replace f2 := x3.free lrb f2
  clear e3 x3 hro
  have nh1 : rb ≠ w.heap.size := by omega
  have nh1' := Ne.symm nh1
  have nh2 : g ≠ w.heap.size := by omega
  have nh2' := Ne.symm nh2
  go_loopw [5] (fun n wr => ∃ k : Nat, wr = ws ∧ k ≤ T.nodes.length ∧ n = .int .i64 k ∧ Hid (∀ (j : Nat) (x : Option Nd), j < k → T.nodes[j]? = some x → x ≠ none)) (fun n _ => T.nodes.length - (intOf n).toNat)
  case atStart => exact ⟨0, rfl, Nat.zero_le _, rfl, Lib.hid fun j x hj => by omega⟩
  case round =>
    obtain ⟨k, rfl, hk, rfl, hno⟩ := hrel
    by_cases hlt : k < T.nodes.length
    · obtain ⟨o, ho⟩ : ∃ o, T.nodes[k]? = some o := ⟨T.nodes[k], by simp [hlt]⟩
      obtain ⟨av, kv, r0, r1, r2, r3, r4, r5, r6, r7⟩ := (B6.out k o ho).out
      have bg := X3.out.block B4.out
      replace r0 := cellOf bg r0
      have HO := Lib.hid ho
      cases o with
      | none =>
        have r0' : wr.cell? ⟨g, k * 6, none⟩ = some (.int .i64 0) := r0
        have g0 := freeOf bg (k * 6)
        have g1 := freeOf bg (k * 6 + 1)
        have g2 := freeOf bg (k * 6 + 2)
        have g3 := freeOf bg (k * 6 + 3)
        have g4 := freeOf bg (k * 6 + 4)
        have g5 := freeOf bg (k * 6 + 5)
        replace r1 := cellOf bg r1
        replace r2 := cellOf bg r2
        replace r3 := cellOf bg r3
        replace r4 := cellOf bg r4
        replace r5 := cellOf bg r5
        clear r0 r6 r7 bg ho
        go_upto_region 7 with fail
        refine wp_region_E (S := fun w' => w'.cell? ⟨rb, 2, none⟩ = some (.slice (some ⟨g, 0, none⟩) T.nodes.length cap) ∧ w'.cell? ⟨w.heap.size, 0, none⟩ = some (.int .i64 1) ∧ w'.cell? ⟨w.heap.size, 1, none⟩ = some (.int .i64 tag) ∧ w'.cell? ⟨w.heap.size, 2, none⟩ = some (.int .i64 (-1)) ∧ w'.cell? ⟨w.heap.size, 3, none⟩ = some (.slice aa' attrs.length acap') ∧ w'.cell? ⟨w.heap.size, 4, none⟩ = some (.string text) ∧ w'.cell? ⟨w.heap.size, 5, none⟩ = some (.slice none 0 0)) (n := 7) (by kernel_rfl) ?_
        have hS : wr.drew.cell? ⟨rb, 2, none⟩ = some (.slice (some ⟨g, 0, none⟩) T.nodes.length cap) ∧ wr.drew.cell? ⟨w.heap.size, 0, none⟩ = some (.int .i64 1) ∧ wr.drew.cell? ⟨w.heap.size, 1, none⟩ = some (.int .i64 tag) ∧ wr.drew.cell? ⟨w.heap.size, 2, none⟩ = some (.int .i64 (-1)) ∧ wr.drew.cell? ⟨w.heap.size, 3, none⟩ = some (.slice aa' attrs.length acap') ∧ wr.drew.cell? ⟨w.heap.size, 4, none⟩ = some (.string text) ∧ wr.drew.cell? ⟨w.heap.size, 5, none⟩ = some (.slice none 0 0) := ⟨c2, d0, d1, d2, d3, d4, d5⟩
        show wpE _ _ _ _ _ 7 8 (Array.replicate 8 false) _ _
        refine wpE_take (i := 0) (v := .pointer (some ⟨rb, 0, none⟩)) (o := { dst := some 31, op := _, type := _, pos := _, after := _, guard := none }) rfl (by kernel_rfl) (by kernel_rfl) (by kernel_rfl) (by kernel_rfl) (fun _ _ _ h => h) (Or.inl ⟨by rfl, fun w' hSw => ?_⟩) hS ?_
        · (obtain ⟨s1, s2, s3, s4, s5, s6, s7⟩ := hSw; clear hS; go_simp)
        try simp only [Act.put, List.setIfInBounds_toArray, List.set_cons_zero, List.set_cons_succ]
        refine wpE_take (i := 1) (v := .pointer (some ⟨rb, 0, none⟩)) (o := { dst := some 32, op := _, type := _, pos := _, after := _, guard := none }) rfl (by kernel_rfl) (by kernel_rfl) (by kernel_rfl) (by kernel_rfl) (fun _ _ _ h => h) (Or.inl ⟨by rfl, fun w' hSw => ?_⟩) hS ?_
        · (obtain ⟨s1, s2, s3, s4, s5, s6, s7⟩ := hSw; clear hS; go_simp)
        try simp only [Act.put, List.setIfInBounds_toArray, List.set_cons_zero, List.set_cons_succ]
        refine wpE_take (i := 2) (v := .pointer (some ⟨rb, 2, none⟩)) (o := { dst := some 33, op := _, type := _, pos := _, after := _, guard := none }) rfl (by kernel_rfl) (by kernel_rfl) (by kernel_rfl) (by kernel_rfl) (fun _ _ _ h => h) (Or.inl ⟨by rfl, fun w' hSw => ?_⟩) hS ?_
        · (obtain ⟨s1, s2, s3, s4, s5, s6, s7⟩ := hSw; clear hS; go_simp)
        try simp only [Act.put, List.setIfInBounds_toArray, List.set_cons_zero, List.set_cons_succ]
        refine wpE_take (i := 3) (v := .slice (some ⟨g, 0, none⟩) T.nodes.length cap) (o := { dst := some 34, op := _, type := _, pos := _, after := _, guard := none }) rfl (by kernel_rfl) (by kernel_rfl) (by kernel_rfl) (by kernel_rfl) (fun _ _ _ h => h) (Or.inl ⟨by rfl, fun w' hSw => ?_⟩) hS ?_
        · (obtain ⟨s1, s2, s3, s4, s5, s6, s7⟩ := hSw; clear hS; go_simp)
        try simp only [Act.put, List.setIfInBounds_toArray, List.set_cons_zero, List.set_cons_succ]
        refine wpE_take (i := 4) (v := .int .i64 k) (o := { dst := some 35, op := _, type := _, pos := _, after := _, guard := none }) rfl (by kernel_rfl) (by kernel_rfl) (by kernel_rfl) (by kernel_rfl) (fun _ _ _ h => h) (Or.inl ⟨by rfl, fun w' hSw => ?_⟩) hS ?_
        · (obtain ⟨s1, s2, s3, s4, s5, s6, s7⟩ := hSw; clear hS; go_simp)
        try simp only [Act.put, List.setIfInBounds_toArray, List.set_cons_zero, List.set_cons_succ]
        refine wpE_take (i := 5) (v := .agg #[.int .i64 1, .int .i64 tag, .int .i64 (-1), .slice aa' attrs.length acap', .string text, .slice none 0 0]) (o := { dst := some 36, op := _, type := _, pos := _, after := _, guard := none }) rfl (by kernel_rfl) (by kernel_rfl) (by kernel_rfl) (by kernel_rfl) (fun _ _ _ h => h) (Or.inl ⟨by rfl, fun w' hSw => ?_⟩) hS ?_
        · (obtain ⟨s1, s2, s3, s4, s5, s6, s7⟩ := hSw; clear hS; go_simp)
        try simp only [Act.put, List.setIfInBounds_toArray, List.set_cons_zero, List.set_cons_succ]
        refine wpE_take (i := 6) (v := .pointer (some ⟨g, k * 6, none⟩)) (o := { dst := some 37, op := _, type := _, pos := _, after := _, guard := none }) rfl (by kernel_rfl) (by kernel_rfl) (by kernel_rfl) (by kernel_rfl) (fun _ _ _ h => h) (Or.inl ⟨by rfl, fun w' hSw => ?_⟩) hS ?_
        · (obtain ⟨s1, s2, s3, s4, s5, s6, s7⟩ := hSw; clear hS; go_simp)
        try simp only [Act.put, List.setIfInBounds_toArray, List.set_cons_zero, List.set_cons_succ]
        refine wpE_one (i := 7) (o := { dst := none, op := _, type := _, pos := _, after := _, guard := none }) (by kernel_rfl) rfl (fun K hK => ?_)
        go_simp
        refine hK.out _ _ (.inl rfl) ?_
        clear hK K
        refine wpE_done (by kernel_rfl) ?_
        go_wp2
        go_ret
        have hfr : freeOf' T.nodes = k := freeOf_at HO.out hno.out
        have hp : T.put ⟨tag, attrs, text, [], -1⟩ = { T with count := T.count + 1, nodes := T.nodes.set k (some ⟨tag, attrs, text, [], -1⟩) } := by
          unfold Tr.put; rw [hfr, if_pos (Int.natCast_nonneg k), Int.toNat_natCast]
        have hq : T.newId = k := by unfold Tr.newId; rw [hfr, if_pos (Int.natCast_nonneg k)]
        rw [hp, hq]
        refine ⟨rfl, ?_⟩
        have hfin := RefAt.put6 HAT.out HFF.out.1 HFF.out.2.1 HFF.out.2.2 (T' := { T with count := T.count + 1, nodes := T.nodes.set k (some ⟨tag, attrs, text, [], -1⟩) }) (o := none) (o' := some ⟨tag, attrs, text, [], -1⟩) (av := .slice aa' attrs.length acap') (kv := .slice none 0 0) X3.out rfl rfl rfl HO.out
          (fun G hG hb => RowP.rd (RowP.move HRO.out (p' := fun _ => True) fun b hb' => ⟨hb b (by have h : w.heap.size + 1 ≤ b := hb'; omega), trivial⟩))
          (fun G hG hb => ⟨rfl, none, 0, rfl, Nat.le_refl _, fun _ => ⟨rfl, rfl⟩, fun a h => by cases h⟩)
        exact hfin.ext (Ext.refl _).drew
      | some nd =>
        have r0' : wr.cell? ⟨g, k * 6, none⟩ = some (.int .i64 1) := r0
        clear r0 r1 r2 r3 r4 r5 r6 r7 bg ho
        go_wp2_with fail
        go_roundw
        case rel => exact ⟨k + 1, trivial, by omega, by go_num, Lib.hid fun j x hj hx => by
          rcases Nat.lt_or_ge j k with h | h
          · exact hno.out j x h hx
          · obtain rfl : j = k := by omega
            rw [HO.out] at hx; cases hx; exact fun h => by cases h⟩
        case measure => simp [intOf]; omega
    · obtain rfl : k = T.nodes.length := by omega
      have bg := X3.out.block B4.out
      obtain ⟨i0, hi, hz0, hz1, hz2⟩ := info_parts infoR
      have lgz := cell_lt c2
      have c2' : (wr.drew.alloc (.cells #[.int .i64 1, .int .i64 tag, .int .i64 (-1), .slice aa' attrs.length acap', .string text, .slice none 0 0] 132)).cell? ⟨rb, 2, none⟩ = some (.slice (some ⟨g, 0, none⟩) T.nodes.length cap) := ((Ext.refl wr).drew.alloc _).cell c2
      have xq := (Ext.refl wr).drew.alloc (.cells #[.int .i64 1, .int .i64 tag, .int .i64 (-1), .slice aa' attrs.length acap', .string text, .slice none 0 0] 132)
      have hbq := xq.block bg
      have d0' := xq.cell d0
      have d1' := xq.cell d1
      have d2' := xq.cell d2
      have d3' := xq.cell d3
      have d4' := xq.cell d4
      have d5' := xq.cell d5
      have hmx : cap ≤ maxLen := b3
      obtain ⟨v', wB, row, hrunB, hrB, hgB, hrowB⟩ := run_append_row (P := Try.prog) (wr.drew.alloc (.cells #[.int .i64 1, .int .i64 tag, .int .i64 (-1), .slice aa' attrs.length acap', .string text, .slice none 0 0] 132)) 92 92 132 i0 noRec0 6 88 Try.underlying92 hi hz0 hz1 hz2 (by kernel_rfl) (by decide)
        (p := fun b => b = g) (v := .slice (some ⟨g, 0, none⟩) T.nodes.length cap) (n := T.nodes.length) (xs := cur.toList.take (T.nodes.length * 6)) ⟨by simp; omega, .inr ⟨g, cap, cur, rfl, rfl, hbq, b2, b3, b5, rfl⟩⟩
        ⟨wr.heap.size, 0, none⟩ 1 1 (recVals tag (-1) (.slice aa' attrs.length acap') text (.slice none 0 0)) rfl (cells_six (heap_alloc_new wr.drew _)) (by simp [Value.oneCell', recVals]) (by decide) (by unfold maxLen; omega) (by omega)
      have hne : ∀ z, row = some z → z ≠ rb := fun z hz e => nrg (e.symm.trans (hrowB z hz))
      have cB := grownCell xq hgB c2 hne
      have fB := grownFree xq hgB (cell_lt c2) f2 hne
      have hne2 : ∀ z, row = some z → z ≠ w.heap.size := fun z hz e => nh2 ((hrowB z hz).symm.trans e)
      have dB0 := grownCell xq hgB d0 hne2
      have dB1 := grownCell xq hgB d1 hne2
      have dB2 := grownCell xq hgB d2 hne2
      have dB3 := grownCell xq hgB d3 hne2
      have dB4 := grownCell xq hgB d4 hne2
      have dB5 := grownCell xq hgB d5 hne2
      have FIN := Lib.hid (more_fin HAT.out HFF.out.1 HFF.out.2.1 HFF.out.2.2 X3.out (nd := ⟨tag, attrs, text, [], -1⟩) B4.out hrB hgB hrowB rfl HRO.out)
      obtain ⟨a7, cap7, e7, _⟩ := hrB.rd.len_of
      subst e7
      have HRB := Lib.hid hrunB
      clear hrB hgB hrowB hrunB hi hz0 hz1 hz2 bg hbq xq hne hne2
      go_upto_region 9 with fail
      refine wp_region_E (S := fun w' => w'.cell? ⟨rb, 2, none⟩ = some (.slice (some ⟨g, 0, none⟩) T.nodes.length cap) ∧ w'.cell? ⟨w.heap.size, 0, none⟩ = some (.int .i64 1) ∧ w'.cell? ⟨w.heap.size, 1, none⟩ = some (.int .i64 tag) ∧ w'.cell? ⟨w.heap.size, 2, none⟩ = some (.int .i64 (-1)) ∧ w'.cell? ⟨w.heap.size, 3, none⟩ = some (.slice aa' attrs.length acap') ∧ w'.cell? ⟨w.heap.size, 4, none⟩ = some (.string text) ∧ w'.cell? ⟨w.heap.size, 5, none⟩ = some (.slice none 0 0)) (n := 10) (by kernel_rfl) ?_
      have hS : wr.drew.cell? ⟨rb, 2, none⟩ = some (.slice (some ⟨g, 0, none⟩) T.nodes.length cap) ∧ wr.drew.cell? ⟨w.heap.size, 0, none⟩ = some (.int .i64 1) ∧ wr.drew.cell? ⟨w.heap.size, 1, none⟩ = some (.int .i64 tag) ∧ wr.drew.cell? ⟨w.heap.size, 2, none⟩ = some (.int .i64 (-1)) ∧ wr.drew.cell? ⟨w.heap.size, 3, none⟩ = some (.slice aa' attrs.length acap') ∧ wr.drew.cell? ⟨w.heap.size, 4, none⟩ = some (.string text) ∧ wr.drew.cell? ⟨w.heap.size, 5, none⟩ = some (.slice none 0 0) := ⟨c2, d0, d1, d2, d3, d4, d5⟩
      show wpE _ _ _ _ _ 10 11 (Array.replicate 11 false) _ _
      refine wpE_take (i := 0) (v := .pointer (some ⟨rb, 0, none⟩)) (o := { dst := some 39, op := _, type := _, pos := _, after := _, guard := none }) rfl (by kernel_rfl) (by kernel_rfl) (by kernel_rfl) (by kernel_rfl) (fun _ _ _ h => h) (Or.inl ⟨by rfl, fun w' hSw => ?_⟩) hS ?_
      · (obtain ⟨s1, s2, s3, s4, s5, s6, s7⟩ := hSw; clear hS; go_simp)
      try simp only [Act.put, List.setIfInBounds_toArray, List.set_cons_zero, List.set_cons_succ]
      refine wpE_take (i := 1) (v := .pointer (some ⟨rb, 0, none⟩)) (o := { dst := some 40, op := _, type := _, pos := _, after := _, guard := none }) rfl (by kernel_rfl) (by kernel_rfl) (by kernel_rfl) (by kernel_rfl) (fun _ _ _ h => h) (Or.inl ⟨by rfl, fun w' hSw => ?_⟩) hS ?_
      · (obtain ⟨s1, s2, s3, s4, s5, s6, s7⟩ := hSw; clear hS; go_simp)
      try simp only [Act.put, List.setIfInBounds_toArray, List.set_cons_zero, List.set_cons_succ]
      refine wpE_take (i := 2) (v := .pointer (some ⟨rb, 0, none⟩)) (o := { dst := some 41, op := _, type := _, pos := _, after := _, guard := none }) rfl (by kernel_rfl) (by kernel_rfl) (by kernel_rfl) (by kernel_rfl) (fun _ _ _ h => h) (Or.inl ⟨by rfl, fun w' hSw => ?_⟩) hS ?_
      · (obtain ⟨s1, s2, s3, s4, s5, s6, s7⟩ := hSw; clear hS; go_simp)
      try simp only [Act.put, List.setIfInBounds_toArray, List.set_cons_zero, List.set_cons_succ]
      refine wpE_take (i := 3) (v := .pointer (some ⟨rb, 2, none⟩)) (o := { dst := some 42, op := _, type := _, pos := _, after := _, guard := none }) rfl (by kernel_rfl) (by kernel_rfl) (by kernel_rfl) (by kernel_rfl) (fun _ _ _ h => h) (Or.inl ⟨by rfl, fun w' hSw => ?_⟩) hS ?_
      · (obtain ⟨s1, s2, s3, s4, s5, s6, s7⟩ := hSw; clear hS; go_simp)
      try simp only [Act.put, List.setIfInBounds_toArray, List.set_cons_zero, List.set_cons_succ]
      refine wpE_take (i := 4) (v := .slice (some ⟨g, 0, none⟩) T.nodes.length cap) (o := { dst := some 43, op := _, type := _, pos := _, after := _, guard := none }) rfl (by kernel_rfl) (by kernel_rfl) (by kernel_rfl) (by kernel_rfl) (fun _ _ _ h => h) (Or.inl ⟨by rfl, fun w' hSw => ?_⟩) hS ?_
      · (obtain ⟨s1, s2, s3, s4, s5, s6, s7⟩ := hSw; clear hS; go_simp)
      try simp only [Act.put, List.setIfInBounds_toArray, List.set_cons_zero, List.set_cons_succ]
      refine wpE_take (i := 5) (v := .agg #[.int .i64 1, .int .i64 tag, .int .i64 (-1), .slice aa' attrs.length acap', .string text, .slice none 0 0]) (o := { dst := some 44, op := _, type := _, pos := _, after := _, guard := none }) rfl (by kernel_rfl) (by kernel_rfl) (by kernel_rfl) (by kernel_rfl) (fun _ _ _ h => h) (Or.inl ⟨by rfl, fun w' hSw => ?_⟩) hS ?_
      · (obtain ⟨s1, s2, s3, s4, s5, s6, s7⟩ := hSw; clear hS; go_simp)
      try simp only [Act.put, List.setIfInBounds_toArray, List.set_cons_zero, List.set_cons_succ]
      refine wpE_one (i := 6) (o := { dst := some 45, op := _, type := _, pos := _, after := _, guard := none }) (by kernel_rfl) rfl (fun K hK => ?_)
      go_simp
      refine hK.out _ _ (.inr ⟨c2', d0', d1', d2', d3', d4', d5'⟩) ?_
      clear hK K
      try simp only [Act.put, List.setIfInBounds_toArray, List.set_cons_zero, List.set_cons_succ]
      refine wpE_one (i := 7) (o := { dst := some 46, op := _, type := _, pos := _, after := _, guard := none }) (by kernel_rfl) rfl (fun K hK => ?_)
      refine step_append_run (by rfl) _ _ 92 (by rfl) (.slice (some ⟨g, 0, none⟩) T.nodes.length cap) (.slice (some ⟨wr.heap.size, 0, none⟩) 1 1) (by rfl) (by rfl) (.slice a7 (T.nodes.length + 1) cap7) wB HRB.out ?_
      refine hK.out _ _ (.inr ⟨cB, dB0, dB1, dB2, dB3, dB4, dB5⟩) ?_
      clear hK K
      try simp only [Act.put, List.setIfInBounds_toArray, List.set_cons_zero, List.set_cons_succ]
      refine wpE_one (i := 8) (o := { dst := some 47, op := _, type := _, pos := _, after := _, guard := none }) (by kernel_rfl) rfl (fun K hK => ?_)
      go_simp
      refine hK.out _ _ (.inr ⟨cB, dB0, dB1, dB2, dB3, dB4, dB5⟩) ?_
      clear hK K
      try simp only [Act.put, List.setIfInBounds_toArray, List.set_cons_zero, List.set_cons_succ]
      refine wpE_one (i := 9) (o := { dst := some 48, op := _, type := _, pos := _, after := _, guard := none }) (by kernel_rfl) rfl (fun K hK => ?_)
      go_simp
      refine hK.out _ _ (.inr ⟨cB, dB0, dB1, dB2, dB3, dB4, dB5⟩) ?_
      clear hK K
      try simp only [Act.put, List.setIfInBounds_toArray, List.set_cons_zero, List.set_cons_succ]
      refine wpE_one (i := 10) (o := { dst := none, op := _, type := _, pos := _, after := _, guard := none }) (by kernel_rfl) rfl (fun K hK => ?_)
      go_simp
      refine hK.out _ _ (.inl rfl) ?_
      clear hK K
      refine wpE_done (by kernel_rfl) ?_
      go_wp2
      go_ret
      have hfr : freeOf' T.nodes = -1 := freeOf_no fun j x hx => hno.out j x (List.getElem?_eq_some_iff.1 hx).1 hx
      have hp : T.put ⟨tag, attrs, text, [], -1⟩ = { T with count := T.count + 1, nodes := T.nodes ++ [some ⟨tag, attrs, text, [], -1⟩] } := by
        unfold Tr.put; rw [hfr, if_neg (by decide)]
      have hq : T.newId = T.nodes.length := by unfold Tr.newId; rw [hfr, if_neg (by decide)]
      rw [hp, hq]
      exact ⟨rfl, FIN.out⟩
end Go.Proofs.Ytiglflmjidikpaa
