/- what of ZP Z1 Z2 Z3 BA BB BC BD BE BF BG BH BI BJ BK BL BM BN BO BP BQ BR NA NC NB ND NE NF BS BT ZY BV BW BY Z4 CA CB CC CD TA TB TC TD TE TF TG TK TH TI is leant on -/
import Derived.Test.YtalaajbajgdglaaGreatDoorLBhf
set_option linter.unusedVariables false
set_option linter.unusedSimpArgs false
set_option maxRecDepth 1000000
set_option maxHeartbeats 8000000
namespace Go.Proofs.YtalaajbajgdglaaGreatDoor
open Go Go.RowKit Go.BigFrame We
theorem wpList_append_row {P : Program} {w : World} {ops : Array Oper} {rest : List Oper} {o : Oper} {a : Act} {Q : Exit → Act → World → Prop} (hgd : o.guard = none) (s x : Operand) (t : TypeId)
    (ho : o.op = .call { callee := .builtin .append, args := #[s, x], argTypes := #[t, t] })
    (e : TypeId) (i : TypeInfo) (z : Value) (size bytes : Nat) (ht : P.underlying t = some (.slice e)) (hi : P.info? e = some i) (hz : i.zero = some z)
    (hsize : i.size = size) (hby : i.bytes = bytes) (hzs : z.cells.size = size) (hsz : 0 < size) (p : Nat → Prop)
    (v : Value) (n : Nat) (xs : List Value) (hs : a.eval s = v) (hr : RowP w p e size v n xs)
    (ad : Addr) (m c : Nat) (news : List Value) (hx : a.eval x = .slice (some ad) m c) (hl : news.length = m * size) (hnews : ∀ j u, news[j]? = some u → w.cell? (ad.add j) = some u) (h1 : ∀ u ∈ news, u.oneCell' = true)
    (hm : 0 < m) (h63 : n + m ≤ maxLen) (hbytes : (n + m) * bytes ≤ 140737488355328)
    (h : ∀ v' w' row, RowP w' (fun g => p g ∨ w.heap.size ≤ g) e size v' (n + m) (xs ++ news) → w.grownBy w' row → (∀ k, row = some k → p k) → wpList P ops Q rest (a.put o.dst v') w') :
    wpList P ops Q (o :: rest) a w := by
  refine wpList_plain hgd fun K hK => ?_
  obtain ⟨v', w', row, h2, h3, h4, h5⟩ := run_append_row (P := P) w t o.type e i z size bytes ht hi hz hsize hby hzs hsz hr ad m c news hl hnews h1 hm h63 hbytes
  unfold Oper.wp execOp
  simp only [ho, resolve, invoke, builtin, Sem.run_bind, Sem.run_pure, Result.andThen_ok, List.map_toArray, List.map_cons, List.map_nil, hs, hx, h2]
  exact hK _ _ (h v' w' row h3 h4 h5)

def RAdd (g0 w : World) (F : Nat → Prop) (bb : Nat) (b : BZ) (n : PN) (e : Ending) (w' : World) : Prop := ∃ (q : Nat) (F' : Nat → Prop) (own : Ow) (l : List FrM) (m : FrM) (ov : Value) (ob : Option Nat) (ps : List Nat) (ks : List PN),
  e = .returned (.pointer (some ⟨q, 0, none⟩)) ∧ BX g0 w' F' bb own (l ++ [m]) ov ob (b.add n) ∧ m.ps = ps ++ [q] ∧ m.f.kids = ks ++ [n] ∧ (∀ g, F' g → F g ∨ (w.heap.size ≤ g ∧ g < w'.heap.size)) ∧ (∀ g, F g → F' g) ∧ Mv F w w'
theorem view_last {l : List FrM} {m : FrM} : ((l ++ [m]).map FrM.q)[((l ++ [m]).map FrM.q).length - 1]? = some m.q := by simp
theorem add_any {g0 w : World} {F : Nat → Prop} {bb : Nat} {own : Ow} {l : List FrM} {m : FrM} {ov : Value} {ob : Option Nat} {b : BZ} (h : BX g0 w F bb own (l ++ [m]) ov ob b) (hz : b.z.length ≤ 60000) (hk : m.f.kids.length ≤ 60000) (hcnt : b.cnt ≤ 60000)
    {tag : Int} {attrs : List AttrB} {aa : Option Addr} {an ac : Nat} {text : ByteArray} (ha : RowP g0 (fun _ => True) 104 2 (.slice aa an ac) attrs.length (attrCells attrs)) :
    Calls Tryz.prog 63 #[.pointer (some ⟨bb, 0, none⟩), .agg #[.int .i64 tag, .slice aa an ac, .string text, .slice none 0 0]] w (RAdd g0 w F bb b (.mk tag attrs text [])) := by
  obtain ⟨g, cap, hob, hov, hV⟩ := h.view hz
  have hml := snoc_last l m
  have hmb := h.at_.blk _ m hml
  have hmr := h.at_.row _ m hml
  rw [ptrs_last (by simp)] at hmr
  have HIN := qh (fun (W : World) (x : Ext w W) => in_any (hV.ext x) view_last)
  have HH := qh h
  have hlen := h.at_.len _ m hml
  have hc4 := cellOf hmb.2 (i := 4) (v := m.kv) rfl
  have hf4 := freeOf hmb.2 4
  have hc1 := cellOf h.blk (i := 1) (v := .int .i64 (b.cnt : Int)) rfl
  have hf1 := freeOf h.blk 1
  obtain ⟨i0, hi, hz0, hz1, hz2⟩ := info_parts infoEl
  have Hi := qh hi
  have Hz0 := qh hz0
  have Hz1 := qh hz1
  have Hz2 := qh hz2
  obtain ⟨mq, hmq⟩ : ∃ mq, m.q = mq := ⟨_, rfl⟩
  obtain ⟨kv, hkv⟩ : ∃ kv, m.kv = kv := ⟨_, rfl⟩
  obtain ⟨cn, hcn⟩ : ∃ cn, b.cnt = cn := ⟨_, rfl⟩
  rw [hmq] at HIN hc4 hf4
  rw [hkv] at hc4
  rw [hcn] at hc1 hcnt
  have HMR := qh (hkv ▸ hmr.1)
  have HMB := qh hmb
  have HLN := qh (show m.ps.length ≤ 60000 by omega)
  have HEQ := qh (And.intro hmq (And.intro hkv hcn))
  have HZ := qh (And.intro hob hov)
  have HA := qh ha
  have hb0 := heap_alloc_new w (.cells #[.int .i64 tag, .slice aa an ac, .string text, .slice none 0 0] 26)
  have n0 := cellOf hb0 (i := 0) (v := .int .i64 tag) rfl
  have n1 := cellOf hb0 (i := 1) (v := .slice aa an ac) rfl
  have n2 := cellOf hb0 (i := 2) (v := .string text) rfl
  have n3 := cellOf hb0 (i := 3) (v := .slice none 0 0) rfl
  have hlv : (loadVar 26 ⟨w.heap.size, 0, none⟩).run Tryz.prog (w.alloc (.cells #[.int .i64 tag, .slice aa an ac, .string text, .slice none 0 0] 26)) = _ := run_loadVar_row (P := Tryz.prog) _ w.heap.size 26 26 #[.int .i64 tag, .slice aa an ac, .string text, .slice none 0 0] (0, 0) _ hb0 Tryz.underlying26 rfl (by kernel_rfl)
  clear h hV hmb hmr hlen hi hz0 hz1 hz2 hmq hkv hcn hob hov ha hb0 hz hk hml
  go_enter Tryz.func63, Tryz.ntmps63
  go_upto_region 2 with fail
  clear n0 n1 n2 n3 hlv
  have XA : Hid (Ext w ((w.alloc (.cells #[.int .i64 tag, .slice aa an ac, .string text, .slice none 0 0] 26)).alloc (.cells #[.int .i64 tag, .slice aa an ac, .string text, .slice none 0 0, .slice none 0 0] 51))) := qh (((Ext.refl w).alloc _).alloc _)
  have HQ := qh (heap_alloc_new (w.alloc (.cells #[.int .i64 tag, .slice aa an ac, .string text, .slice none 0 0] 26)) (.cells #[.int .i64 tag, .slice aa an ac, .string text, .slice none 0 0, .slice none 0 0] 51))
  obtain ⟨q, hq⟩ : ∃ q, w.heap.size + 1 = q := ⟨_, rfl⟩
  have HQ1 := qh hq
  simp only [World.size_alloc] at HQ
  rw [hq] at HQ ⊢
  generalize ((w.alloc (.cells #[.int .i64 tag, .slice aa an ac, .string text, .slice none 0 0] 26)).alloc (.cells #[.int .i64 tag, .slice aa an ac, .string text, .slice none 0 0, .slice none 0 0] 51)) = wA at XA HQ ⊢
  have hqA : Hid (q < wA.heap.size) := qh (Array.getElem?_eq_some_iff.1 HQ.out).1
  clear hq
  go_wp2_with (go_at_call 97; refine (HIN.out _ XA.out).mono ?_)
  rintro e wB ⟨rfl, xB⟩
  have XB := qh (XA.out.trans xB)
  have XQ := qh xB
  clear xB
  go_wp2_with (go_at_call 97; refine (HIN.out _ XB.out).mono ?_)
  rintro e wC ⟨rfl, xC⟩
  have XC := qh (XB.out.trans xC)
  have XD := qh (XQ.out.trans xC)
  clear xC
  have d4 := XC.out.cell hc4
  obtain ⟨ka, kn, kc, hkv2⟩ : ∃ ka kn kc, kv = .slice ka kn kc := by
    obtain ⟨ka, kc, e, _⟩ := RowRd.len_of (RowP.rd HMR.out)
    exact ⟨ka, _, kc, e⟩
  subst hkv2
  go_wp2_with (at_builtin; refine wpList_append_row rfl _ _ 49 rfl 48 i0 (.pointer none) 1 8 Tryz.underlying49 Hi.out Hz0.out Hz1.out Hz2.out rfl (by decide) (fun g => own g = some (l.length, 1)) (.slice ka kn kc) m.ps.length (m.ps.map ptrV) rfl ?c1 ⟨wC.heap.size, 0, none⟩ 1 1 [.pointer (some ⟨q, 0, none⟩)] rfl rfl ?c2 ?c3 (by decide) ?c4 ?c5 ?_)
  case c1 => exact RowP.ext HMR.out (XC.out.alloc _)
  case c2 => exact cell_one_new _ _ _
  case c3 => simp [Value.oneCell']
  case c4 => have := HLN.out; unfold maxLen; omega
  case c5 => have := HLN.out; omega
  intro v' wD row hrw hg hrow
  have xa := (Ext.refl wC).alloc (.cells #[.pointer (some ⟨q, 0, none⟩)] 48)
  have HRW := qh hrw
  have HROW := qh hrow
  have HGR : Hid (Mv (fun g => own g = some (l.length, 1)) w wD) := qh ((Mv.ofExt (XC.out.trans xa)).grown hg (fun k hk _ => hrow k hk))
  have HGQ : Hid (wD.heap[q]? = wA.heap[q]?) := qh (by
    have h1 : q < wC.heap.size := Nat.lt_of_lt_of_le hqA.out XD.out.size
    rw [hg.block q (Nat.lt_of_lt_of_le h1 xa.size) (fun e => by
      have h2 := HH.out.at_.low q (by rw [hrow q e.symm]; simp)
      have h3 := HQ1.out
      omega), Below.block xa q h1, Below.block XD.out q hqA.out])
  have HSD := qh (Nat.le_trans xa.size hg.size)
  clear hrw hrow hg xa
  have hnm : own mq ≠ some (l.length, 1) := by rw [← HEQ.out.1, HMB.out.1]; simp
  have hnb : own bb ≠ some (l.length, 1) := by rw [HH.out.nob]; simp
  have d4 := HGR.out.cell hc4 hnm
  have g4 : wD.frozen? ⟨mq, 4, none⟩ = false := freeOf (HGR.out.block (HEQ.out.1 ▸ HMB.out.2) hnm) 4
  have d1 := HGR.out.cell hc1 hnb
  have g1 : wD.frozen? ⟨bb, 1, none⟩ = false := freeOf (HGR.out.block HH.out.blk hnb) 1
  have hne : mq ≠ bb := fun e => by
    have h1 := HMB.out.1
    rw [HEQ.out.1, e, HH.out.nob] at h1
    cases h1
  have hne2 : bb ≠ mq := Ne.symm hne
  have e1 : wrap64 ((cn : Int) + 1) = ((cn + 1 : Nat) : Int) := by rw [IntWalk.wrap64_in _ (by omega)]; rfl
  have HCN := qh hcnt
  obtain ⟨va, vn, vc, hv'⟩ : ∃ va vn vc, v' = .slice va vn vc := by
    obtain ⟨va, vc, e, _⟩ := RowRd.len_of (RowP.rd HRW.out)
    exact ⟨va, _, vc, e⟩
  subst hv'
  clear hc4 hf4 hc1 hf1 hnm hnb hcnt
  go_wp2_with fail
  go_ret
  clear d4 g4 d1 g1 e1
  have hB := HH.out
  obtain ⟨ob', hro, hoo⟩ : ∃ ob' : Option Nat, RowP wD (fun g => ob' = some g) 48 1 (.slice va vn vc) (m.ps.length + 1) (m.ps.map ptrV ++ [ptrV q]) ∧ ∀ g, ob' = some g → (own g = some (l.length, 1) ∨ wC.heap.size + 1 ≤ g) ∧ g < wD.heap.size := by
    rcases HRW.out.2 with ⟨h0, _⟩ | ⟨g1, cap1, cur, h1, h2, h3, h4⟩
    · omega
    · exact ⟨some g1, ⟨HRW.out.1, .inr ⟨g1, cap1, cur, h1, rfl, h3, h4⟩⟩, fun g hg => by cases hg; exact ⟨by simpa using h2, (Array.getElem?_eq_some_iff.1 h3).1⟩⟩
  have hsA := XA.out.size
  have hsC := XC.out.size
  have hsAC := XD.out.size
  have hsD := HSD.out
  have hqw := HQ1.out
  have hqA' := hqA.out
  obtain ⟨hmq, hkv, hcn⟩ := HEQ.out
  have hmo : own mq = some (l.length, 0) := hmq ▸ HMB.out.1
  have hml : mq < w.heap.size := (hB.at_.low mq (by rw [hmo]; simp)).2
  have hbl : bb < w.heap.size := (Array.getElem?_eq_some_iff.1 hB.blk).1
  have hqn : own q = none := Decidable.byContradiction fun e => by have := (hB.at_.low q e).2; omega
  have kE : Mv (fun g => g = m.q ∨ own g = some (l.length, 1)) w (wD.setCell ⟨mq, 4, none⟩ (.slice va vn vc)) := (HGR.out.imp fun x _ hx => .inr hx).setCell (p := ⟨mq, 4, none⟩) (fun _ => .inl hmq.symm) _
  have kq : Mv (· = mq) wD (wD.setCell ⟨mq, 4, none⟩ (.slice va vn vc)) := (Mv.refl (· = mq) wD).setCell (p := ⟨mq, 4, none⟩) (fun _ => rfl) _
  have hbm : wD.heap[mq]? = some (.cells (elC m.f.tag m.av ⟨#[]⟩ m.kv) 51 (0, 0)) := HGR.out.block (hmq ▸ HMB.out.2) (by rw [hmo]; simp)
  have hobq : ∀ g, ob' = some g → g ≠ mq := fun g hg e => by
    subst e
    rcases (hoo g hg).1 with h1 | h1
    · rw [hmo] at h1; simp at h1
    · omega
  obtain ⟨own', hA', hO', hOq⟩ := BAt.leaf hB.at_ (ob := ob') (kv' := .slice va vn vc) (q := q) (tag := tag) (attrs := attrs) (av := .slice aa an ac) (text := text) kE (by rw [hmq]; exact heap_setCell_same (i := 4) hbm _)
    (hro.mv kq fun g hg => hobq g hg) (fun g hg => by
      rcases (hoo g hg).1 with h1 | h1
      · exact .inl h1
      · refine .inr ⟨Decidable.byContradiction fun e => by have := (hB.at_.low g e).2; omega, by omega, ?_⟩
        have h2 := (hoo g hg).2
        have h3 := kq.size
        omega)
    (kq.block (HGQ.out.trans HQ.out) (by show ¬ q = mq; omega)) hqn (by omega) (fun e => by
      rcases (hoo q e).1 with h1 | h1
      · rw [hqn] at h1; cases h1
      · omega) HA.out hB.old.size
  have kb : Mv (· = bb) (wD.setCell ⟨mq, 4, none⟩ (.slice va vn vc)) ((wD.setCell ⟨mq, 4, none⟩ (.slice va vn vc)).setCell ⟨bb, 1, none⟩ (.int .i64 ((cn : Int) + 1))) := (Mv.refl (· = bb) _).setCell (p := ⟨bb, 1, none⟩) (fun _ => rfl) _
  have hOb : own' bb = none := Decidable.byContradiction fun e => by
    rcases hO' bb e with h1 | h1
    · exact h1 hB.nob
    · omega
  have kK : Mv (fun g => g = mq ∨ own g = some (l.length, 1) ∨ g = bb) w ((wD.setCell ⟨mq, 4, none⟩ (.slice va vn vc)).setCell ⟨bb, 1, none⟩ (.int .i64 ((cn : Int) + 1))) :=
    (kE.imp fun x _ hx => hx.elim (fun e => .inl (e.trans hmq)) fun e => .inr (.inl e)).setCell (p := ⟨bb, 1, none⟩) (fun _ => .inr (.inr rfl)) _
  have hKF : ∀ g, (g = mq ∨ own g = some (l.length, 1) ∨ g = bb) → F g ∧ g0.heap.size ≤ g := fun g hg => by
    rcases hg with rfl | hg | rfl
    · exact ⟨hB.inF _ (by rw [hmo]; simp), (hB.at_.low _ (by rw [hmo]; simp)).1⟩
    · exact ⟨hB.inF _ (by rw [hg]; simp), (hB.at_.low _ (by rw [hg]; simp)).1⟩
    · exact ⟨hB.bbF, hB.bbg⟩
  have hbz : b.z = m.f :: zOf l := by rw [hB.z, zOf_snoc]
  have hbE : (wD.setCell ⟨mq, 4, none⟩ (.slice va vn vc)).heap[bb]? = some (.cells #[ov, .int .i64 (b.cnt : Int)] 53 (0, 0)) := kq.block (HGR.out.block hB.blk (by rw [hB.nob]; simp)) hne2
  refine ⟨q, fun g => F g ∨ (w.heap.size ≤ g ∧ g < ((wD.setCell ⟨mq, 4, none⟩ (.slice va vn vc)).setCell ⟨bb, 1, none⟩ (.int .i64 ((cn : Int) + 1))).heap.size), own', l, _, ov, ob, m.ps, m.f.kids, rfl,
    ⟨hA'.mv kb (fun g hg e => by subst e; exact hg hOb), ?_, hOb, ?_, fun g hg => ?_, ?_, by simp, fun g hg => ?_, .inl hB.bbF, hB.bbg, kK.toExt hB.old fun g hg => (hKF g hg).2⟩, rfl, rfl, fun g hg => hg, fun g hg => .inl hg, kK.imp fun g _ hg => (hKF g hg).1⟩
  · have e : ((b.add (.mk tag attrs text [])).cnt : Int) = (cn : Int) + 1 := by rw [(BZ.add_ne (by rw [hbz]; simp)).2.2, hcn]; rfl
    rw [e]
    exact heap_setCell_same (i := 1) hbE _
  · have h1 := hB.row.mv kK fun g hg => by
      have h2 := hB.rowb g hg
      rintro (rfl | h3 | h3)
      · rw [hmo] at h2; cases h2.1
      · rw [h3] at h2; cases h2.1
      · exact h2.2.1 h3
    simpa using h1
  · have h2 := hB.rowb g hg
    refine ⟨Decidable.byContradiction fun e => ?_, h2.2.1, h2.2.2.1, Nat.lt_of_lt_of_le h2.2.2.2.1 kK.size, .inl h2.2.2.2.2⟩
    rcases hO' g e with h3 | h3
    · exact h3 h2.1
    · omega
  · rw [zOf_snoc]
    unfold BZ.add
    rw [hbz]
  · rcases hO' g hg with h3 | h3
    · exact .inl (hB.inF g h3)
    · exact .inr ⟨h3.1, Nat.lt_of_lt_of_le h3.2.1 kb.size⟩
def RB (g0 w : World) (F : Nat → Prop) (bb : Nat) (b : BZ) (e : Ending) (w' : World) : Prop := e = .returned (.tuple #[]) ∧ ∃ (F' : Nat → Prop) (own : Ow) (l : List FrM) (ov : Value) (ob : Option Nat),
  BX g0 w' F' bb own l ov ob b ∧ (∀ g, F' g → F g ∨ (w.heap.size ≤ g ∧ g < w'.heap.size)) ∧ (∀ g, F g → F' g) ∧ Mv F w w'
theorem RB.same {g0 w w' : World} {F : Nat → Prop} {bb : Nat} {own : Ow} {l : List FrM} {ov : Value} {ob : Option Nat} {b : BZ} (h : BX g0 w F bb own l ov ob b) (x : Ext w w') : RB g0 w F bb b (.returned (.tuple #[])) w' :=
  ⟨rfl, F, own, l, ov, ob, h.ext x, fun g hg => .inl hg, fun g hg => hg, Mv.ofExt x⟩
theorem RB.after {g0 w w1 : World} {F : Nat → Prop} {bb : Nat} {b : BZ} {e : Ending} {w' : World} (x : Ext w w1) (h : RB g0 w1 F bb b e w') : RB g0 w F bb b e w' := by
  obtain ⟨h1, F', own, l, ov, ob, h2, h3, h4, h5⟩ := h
  exact ⟨h1, F', own, l, ov, ob, h2, fun g hg => (h3 g hg).imp id fun h => ⟨Nat.le_trans x.size h.1, h.2⟩, h4, Mv.after x h5⟩
theorem lastText_none {l : List PN} (h : lastText l = none) : l = [] ∨ ∃ ks k, l = ks ++ [k] ∧ k.tag ≠ 0 := by
  cases hl : l.getLast? with
  | none => exact .inl (List.getLast?_eq_none_iff.1 hl)
  | some k =>
    obtain ⟨ks, rfl⟩ := List.getLast?_eq_some_iff.1 hl
    refine .inr ⟨ks, k, rfl, fun e => ?_⟩
    unfold lastText at h
    rw [hl] at h
    simp [e] at h
theorem lastText_some {l : List PN} {k : PN} (h : lastText l = some k) : ∃ ks, l = ks ++ [k] ∧ k.tag = 0 := by
  unfold lastText at h
  cases hl : l.getLast? with
  | none => rw [hl] at h; cases h
  | some x =>
    rw [hl] at h
    dsimp only at h
    split at h
    · rename_i e
      cases h
      obtain ⟨ks, rfl⟩ := List.getLast?_eq_some_iff.1 hl
      exact ⟨ks, rfl, e⟩
    · cases h
theorem BX.lastKid {g0 w : World} {F : Nat → Prop} {bb : Nat} {own : Ow} {l : List FrM} {m : FrM} {ov : Value} {ob : Option Nat} {b : BZ} (h : BX g0 w F bb own (l ++ [m]) ov ob b) {ks : List PN} {k : PN} (hk : m.f.kids = ks ++ [k]) :
    ∃ kg kc ps p, m.kv = .slice (some ⟨kg, 0, none⟩) (ks.length + 1) kc ∧ m.ps = ps ++ [p] ∧ ps.length = ks.length ∧ w.cell? ⟨kg, ks.length, none⟩ = some (.pointer (some ⟨p, 0, none⟩)) ∧ w.cell? ⟨p, 0, none⟩ = some (.int .i64 k.tag) := by
  have hml := snoc_last l m
  have hlen := h.at_.len _ m hml
  rw [hk, List.length_append, List.length_singleton] at hlen
  have hr := h.at_.row _ m hml
  rw [ptrs_last (by simp)] at hr
  have hne : m.ps ≠ [] := by intro e; rw [e] at hlen; simp at hlen
  obtain ⟨ps, p, hps⟩ : ∃ ps p, m.ps = ps ++ [p] := ⟨m.ps.dropLast, m.ps.getLast hne, (List.dropLast_concat_getLast _).symm⟩
  have hpl : ps.length = ks.length := by rw [hps] at hlen; simpa using hlen
  rcases hr.1.2 with ⟨h0, _⟩ | ⟨kg, kc, cur, h1, h2, h3, h4, h5, h6, h7⟩
  · omega
  · have he := h.at_.kid _ m ps.length p k hml (by rw [hps]; simp) (by rw [hk, hpl]; simp)
    obtain ⟨tag, attrs, text, kids⟩ := k
    obtain ⟨av, kv, ps2, hb, _⟩ := he.open
    refine ⟨kg, kc, ps, p, by rw [h1, hlen], hps, hpl, cellOf h3 ?_, cellOf hb rfl⟩
    rw [Nat.mul_one] at h7
    have hj2 : (m.ps.map ptrV)[ks.length]? = some (ptrV p) := by rw [hps, ← hpl]; simp
    rw [← h7, List.getElem?_take] at hj2
    split at hj2
    · simpa [ptrV] using hj2
    · cases hj2
theorem BX.text {g0 w : World} {F : Nat → Prop} {bb : Nat} {own : Ow} {l : List FrM} {m : FrM} {ov : Value} {ob : Option Nat} {b : BZ} (h : BX g0 w F bb own (l ++ [m]) ov ob b) {ks : List PN} {attrs : List AttrB} {text t' : ByteArray} (hn : m.f.kids = ks ++ [.mk 0 attrs text []]) {ps : List Nat} {p : Nat} (hp : m.ps = ps ++ [p]) :
    w.cell? ⟨p, 2, none⟩ = some (.string text) ∧ w.frozen? ⟨p, 2, none⟩ = false ∧ Mv F w (w.setCell ⟨p, 2, none⟩ (.string t')) ∧
    ∃ l', BX g0 (w.setCell ⟨p, 2, none⟩ (.string t')) F bb own l' ov ob ⟨⟨m.f.tag, m.f.attrs, m.f.kids.dropLast ++ [.mk 0 attrs t' []]⟩ :: zOf l, b.cnt⟩ := by
  obtain ⟨h1, h2, h3, h4, h5⟩ := BAt.text (t' := t') h.at_ hp hn
  have hFp : F p := h.inF p (by rw [h1]; simp)
  have k : Mv (· = p) w (w.setCell ⟨p, 2, none⟩ (.string t')) := (Mv.refl (· = p) w).setCell (p := ⟨p, 2, none⟩) (fun _ => rfl) _
  have hdl : m.f.kids.dropLast = ks := by rw [hn]; simp
  refine ⟨h2, h4, k.imp fun x _ hx => by subst hx; exact hFp, _, ⟨h5, k.block h.blk (fun e => by rw [← e, h.nob] at h1; cases h1), h.nob, ?_, fun g hg => ?_, ?_, by simp, h.inF, h.bbF, h.bbg, k.toExt h.old fun x hx => by subst hx; exact (h.at_.low _ (by rw [h1]; simp)).1⟩⟩
  · have hr := h.row.mv k fun g hg e => by have := (h.rowb g hg).1; rw [e, h1] at this; cases this
    simpa using hr
  · have := h.rowb g hg
    exact ⟨this.1, this.2.1, this.2.2.1, Nat.lt_of_lt_of_le this.2.2.2.1 k.size, this.2.2.2.2⟩
  · rw [zOf_snoc, hdl]
theorem text_any {g0 w : World} {F : Nat → Prop} {bb : Nat} {own : Ow} {l : List FrM} {m : FrM} {ov : Value} {ob : Option Nat} {b : BZ} (h : BX g0 w F bb own (l ++ [m]) ov ob b) (hz : b.z.length ≤ 60000) (hk : m.f.kids.length ≤ 60000) (hcnt : b.cnt ≤ 60000)
    (hleaf : ∀ k ∈ m.f.kids, k.tag = 0 → k.kids = [] ∧ k.text.size ≤ 1000000000000) (s : List UInt8) (hs : s.length ≤ 1000000000000) :
    Calls Tryz.prog 57 #[.pointer (some ⟨bb, 0, none⟩), .string (bs s)] w (RB g0 w F bb (textZ s b)) := by
  obtain ⟨g, cap, hob, hov, hV⟩ := h.view hz
  have hml := snoc_last l m
  have hbz : b.z = m.f :: zOf l := by rw [h.z, zOf_snoc]
  have hlen := h.at_.len _ m hml
  have HIN := qh (fun (W : World) (x : Ext w W) => in_any (hV.ext x) view_last)
  have HH := qh h
  have c0 := cellOf (h.at_.blk _ m hml).2 (i := 0) (v := .int .i64 m.f.tag) rfl
  have HCL := qh (fun W => Class_any W m.f.tag)
  have HTR := qh (fun W => Trim_any (bs s) ⟨#[32, 9, 10, 12, 13]⟩ W (by show s.toArray.size ≤ _; rw [List.size_toArray]; omega) (by decide) (by
    intro j c hj
    have : c ∈ ([32, 9, 10, 12, 13] : List UInt8) := List.mem_of_getElem? hj
    revert this
    simp only [List.mem_cons, List.not_mem_nil, or_false]
    rintro (rfl | rfl | rfl | rfl | rfl) <;> decide))
  obtain ⟨tz, htz⟩ : ∃ tz : ByteArray, (⟨(Lib.trimS (bs s).data.toList (⟨#[32, 9, 10, 12, 13]⟩ : ByteArray).data.toList).toArray⟩ : ByteArray) = tz := ⟨_, rfl⟩
  have HALL : Hid ((tz.toList == ([] : List UInt8)) = s.all blankB) := qh (by
    rw [ByteArray.toList_eq, ← htz]
    have hb := trim_blank s
    rw [Bool.eq_iff_iff, beq_iff_eq]
    simpa [bs] using hb)
  rw [htz] at HTR
  have HBZ := qh hbz
  have HK := qh (And.intro hk (And.intro hcnt (And.intro hz hs)))
  have HLF := qh hleaf
  obtain ⟨mq, hmq⟩ : ∃ mq, m.q = mq := ⟨_, rfl⟩
  obtain ⟨t, ht⟩ : ∃ t, m.f.tag = t := ⟨_, rfl⟩
  have HEQ := qh (And.intro hmq ht)
  rw [hmq] at HIN c0
  rw [ht] at HCL c0
  have C0 := qh c0
  clear h hV hob hov hml hlen hbz hleaf htz hz hk hcnt hs hmq ht c0
  go_enter Tryz.func57, Tryz.ntmps57
  go_wp2_with (go_at_call 97; refine (HIN.out _ (Ext.refl _)).mono ?_)
  rintro e wA ⟨rfl, xA⟩
  have XA := qh xA
  have cA := xA.cell C0.out
  clear xA
  cases hret : boxT t && s.all blankB with
  | true =>
    rw [Bool.and_eq_true] at hret
    have hc : (clsT t == 2) = true := hret.1
    have htz : (tz.toList == ([] : List UInt8)) = true := HALL.out.trans hret.2
    have FIN : Hid (∀ W, Ext w W → RB g0 w F bb (textZ s b) (.returned (.tuple #[])) W) := qh (fun W x => by
      have e : textZ s b = b := by
        unfold textZ
        rw [HBZ.out]
        dsimp only
        rw [HEQ.out.2, if_pos (by rw [Bool.and_eq_true]; exact hret)]
      rw [e]
      exact RB.same HH.out x)
    obtain ⟨c, hcc⟩ : ∃ c, clsT t = c := ⟨_, rfl⟩
    rw [hcc] at hc HCL
    clear hret hcc
    go_wp2_with (first
      | (go_at_call 64; refine (HCL.out _).mono ?_; rintro e wB ⟨rfl, xB⟩; have XB := qh (XA.out.trans xB); clear xB)
      | (go_at_call 98; refine (HTR.out _).mono ?_; rintro e wC ⟨rfl, xC⟩; have XC : Hid (Ext w wC) := qh (XB.out.trans xC); clear xC))
    exact bodyPost_ret (results_none rfl _ _ _) rfl (FIN.out _ XC.out)
  | false =>
    have hcs : ((clsT t == 2) = false) ∨ ((clsT t == 2) = true ∧ (tz.toList == ([] : List UInt8)) = false) := by
      cases h1 : boxT t with
      | false => exact .inl h1
      | true => rw [h1, Bool.true_and] at hret; exact .inr ⟨h1, HALL.out.trans hret⟩
    have HTZ : Hid (textZ s b = match lastText m.f.kids with
      | some k => ⟨⟨m.f.tag, m.f.attrs, m.f.kids.dropLast ++ [.mk 0 k.attrs (bs (k.text.data.toList ++ s)) k.kids]⟩ :: zOf l, b.cnt⟩
      | none => if roomB b.cnt (l ++ [m]).length then b.add (.mk 0 [] (bs s) []) else b) := qh (by
      unfold textZ
      rw [HBZ.out]
      dsimp only
      rw [show (boxT m.f.tag && s.all blankB) = false by rw [HEQ.out.2]; exact hret, if_neg (by simp)]
      have e : (m.f :: zOf l).length = (l ++ [m]).length := by rw [List.length_cons, zOf_len]; simp
      rw [e]
      cases lastText m.f.kids <;> rfl)
    obtain ⟨c, hcc⟩ : ∃ c, clsT t = c := ⟨_, rfl⟩
    rw [hcc] at hcs HCL
    clear hret hcc
    obtain ⟨ka, kn, kc, hkv⟩ : ∃ ka kn kc, m.kv = .slice ka kn kc := by
      have hr := (HH.out.at_.row _ m (snoc_last l m)).1
      obtain ⟨ka, kc, e, _⟩ := RowRd.len_of (RowP.rd hr)
      exact ⟨ka, _, kc, e⟩
    have c4 : ∀ W, Ext w W → W.cell? ⟨mq, 4, none⟩ = some (.slice ka kn kc) := fun W x => by
      rw [← HEQ.out.1, ← hkv]
      exact x.cell (cellOf (HH.out.at_.blk _ m (snoc_last l m)).2 rfl)
    have C4 := qh c4
    clear c4
    have HRM : Hid (∀ W, Ext w W → Calls Tryz.prog 99 #[.pointer (some ⟨bb, 0, none⟩)] W (RBool (roomB b.cnt (l ++ [m]).length) W)) := qh (fun W x => by
      obtain ⟨g, cap, _, _, hV⟩ := HH.out.view HK.out.2.2.1
      have := room_any (hV.ext x)
      rwa [List.length_map] at this)
    have HADD : Hid (∀ W, Ext w W → Calls Tryz.prog 63 #[.pointer (some ⟨bb, 0, none⟩), .agg #[.int .i64 0, .slice none 0 0, .string (bs s), .slice none 0 0]] W (RAdd g0 W F bb b (.mk 0 [] (bs s) []))) := qh (fun W x =>
      add_any (HH.out.ext x) HK.out.2.2.1 HK.out.1 HK.out.2.1 ⟨rfl, .inl ⟨rfl, none, rfl⟩⟩)
    rcases hcs with hcs | ⟨hcs, htz⟩
    all_goals
      go_upto_region 2 with (first
        | (go_at_call 64; refine (HCL.out _).mono ?_; rintro e wB ⟨rfl, xB⟩; have XB := qh (XA.out.trans xB); clear xB)
        | (go_at_call 98; refine (HTR.out _).mono ?_; rintro e wC ⟨rfl, xC⟩; have XB : Hid (Ext w wC) := qh (XB.out.trans xC); clear xC))
      have c4 := C4.out _ XB.out
      clear hcs
      cases hlt : lastText m.f.kids with
      | some k =>
        obtain ⟨ks, hks, hkt⟩ := lastText_some hlt
        obtain ⟨kg, kc', ps, p, h1, h2, h3, h4, h5⟩ := BX.lastKid HH.out hks
        obtain ⟨hkk, hksz⟩ := HLF.out k (by rw [hks]; simp) hkt
        obtain ⟨ktag, kattrs, ktext, kkids⟩ := k
        have hkt : ktag = 0 := hkt
        have hkk : kkids = [] := hkk
        subst hkt hkk
        rw [hkv] at h1
        obtain ⟨rfl, rfl, rfl⟩ : ka = some ⟨kg, 0, none⟩ ∧ kn = ks.length + 1 ∧ kc = kc' := by injection h1 with a1 a2 a3; exact ⟨a1, a2, a3⟩
        have q4 := XB.out.cell h4
        have q5 : _ = some (Value.int .i64 0) := XB.out.cell h5
        have hT := BX.text (HH.out.ext XB.out) (t' := bs (ktext.data.toList ++ s)) hks h2
        obtain ⟨q2, f2, hMv, l', hBX⟩ := hT
        have hsz : ktext.size ≤ 1000000000000 := hksz
        have hsl := HK.out.2.2.2
        have HTZ2 := qh (HTZ.out.trans (by rw [hlt]))
        have hlen : ks.length ≤ 60000 := by have := HK.out.1; rw [hks] at this; simp at this; omega
        have e1 : wrap64 (ks.length : Int) = (ks.length : Int) := IntWalk.wrap64_in _ (by omega)
        obtain ⟨n, hn⟩ : ∃ n, ks.length = n := ⟨_, rfl⟩
        rw [hn] at c4 q4 e1 hlen
        have d0 : decide ((0 : Int) < ((n + 1 : Nat) : Int)) = true := decide_eq_true (by omega)
        have d1 : decide ((0 : Int) < (n : Int) + 1) = true := decide_eq_true (by omega)
        have hlt1 : n < n + 1 := Nat.lt_succ_self n
        have HBX := qh (And.intro hMv hBX)
        have HSZ := qh (And.intro hsz hsl)
        have hcat : ktext ++ bs s = bs (ktext.data.toList ++ s) := by
          apply ByteArray.ext
          apply Array.ext'
          simp [bs]
        have hlim : ¬ 9223372036854775807 < ktext.size + s.length := by omega
        clear hMv hBX hks hlt hksz h1 h2 h3 h4 h5 hkv hsz hsl hn
        go_wp2_with fail
        go_end0
        rw [HTZ2.out]
        exact RB.after XB.out ⟨rfl, F, own, l', ov, ob, HBX.out.2, fun g hg => .inl hg, fun g hg => hg, HBX.out.1⟩
      | none =>
        have HTZ2 := qh (HTZ.out.trans (by rw [hlt]))
        have HKK : Hid (kn = 0 ∨ ∃ n kg p kt, kn = n + 1 ∧ ka = some ⟨kg, 0, none⟩ ∧ n ≤ 60000 ∧ w.cell? ⟨kg, n, none⟩ = some (.pointer (some ⟨p, 0, none⟩)) ∧ w.cell? ⟨p, 0, none⟩ = some (.int .i64 kt) ∧ (kt == 0) = false) := qh (by
          rcases lastText_none hlt with hnil | ⟨ks, k, hks, hkt⟩
          · have hr := (HH.out.at_.row _ m (snoc_last l m)).1
            have hlen := HH.out.at_.len _ m (snoc_last l m)
            rw [ptrs_last (by simp)] at hr
            rw [hnil] at hlen
            obtain ⟨ka', kc', e, _⟩ := RowRd.len_of (RowP.rd hr)
            rw [hkv] at e
            exact .inl (by injection e with _ e2 _; rw [e2, hlen]; rfl)
          · obtain ⟨kg, kc', ps, p, h1, h2, h3, h4, h5⟩ := BX.lastKid HH.out hks
            rw [hkv] at h1
            have hl := HK.out.1
            rw [hks] at hl
            simp only [List.length_append, List.length_singleton] at hl
            injection h1 with a1 a2 a3
            exact .inr ⟨ks.length, kg, p, k.tag, a2, a1, by omega, h4, h5, by simpa using hkt⟩)
        have HR := qh (HRM.out _ XB.out)
        have HAD := qh (fun W x => HADD.out W (XB.out.trans x))
        have HSAME : Hid (roomB b.cnt (l ++ [m]).length = false → ∀ W, Ext w W → RB g0 w F bb (textZ s b) (.returned (.tuple #[])) W) := qh (fun hr W x => by
          rw [HTZ2.out, hr, if_neg (by simp)]
          exact RB.same HH.out x)
        have HMORE : Hid (roomB b.cnt (l ++ [m]).length = true → ∀ W, Ext w W → ∀ e W', RAdd g0 W F bb b (.mk 0 [] (bs s) []) e W' → RB g0 w F bb (textZ s b) (.returned (.tuple #[])) W') := qh (fun hr W x e W' hA => by
          rw [HTZ2.out, hr, if_pos rfl]
          obtain ⟨q, F', own', l', m', ov', ob', ps, ks, h1, h2, h3, h4, h5, h6, h7⟩ := hA
          exact RB.after x ⟨rfl, F', own', _, ov', ob', h2, h5, h6, h7⟩)
        have q6 := HKK.out
        obtain ⟨rm, hrm⟩ : ∃ rm, roomB b.cnt (l ++ [m]).length = rm := ⟨_, rfl⟩
        rw [hrm] at HR HSAME HMORE
        clear hlt hkv hrm
        rcases q6 with rfl | ⟨n, kg, p, kt, rfl, rfl, hlen, q4, q5, q7⟩
        · cases rm with
          | false =>
            go_wp2_with (go_at_call 99; refine HR.out.mono ?_; rintro e wE ⟨rfl, xE⟩; have XE := qh (XB.out.trans xE))
            go_end0
            exact HSAME.out (by first | rfl | trivial) _ XE.out
          | true =>
            go_wp2_with (first
              | (go_at_call 99; refine HR.out.mono ?_; rintro e wE ⟨rfl, xE⟩; have XE := qh xE; clear xE)
              | (go_at_call 63; refine (HAD.out _ XE.out).mono ?_; rintro e wG hG; have HG := qh (HMORE.out (by first | rfl | trivial) _ (XB.out.trans XE.out) _ _ hG); obtain ⟨q, _, _, _, _, _, _, _, _, rfl, _⟩ := hG))
            go_end0
            exact HG.out
        · have q4 := XB.out.cell q4
          have q5 := XB.out.cell q5
          have e1 : wrap64 (n : Int) = (n : Int) := IntWalk.wrap64_in _ (by omega)
          have d0 : decide ((0 : Int) < ((n + 1 : Nat) : Int)) = true := decide_eq_true (by omega)
          have d1 : decide ((0 : Int) < (n : Int) + 1) = true := decide_eq_true (by omega)
          have hlt1 : n < n + 1 := Nat.lt_succ_self n
          cases rm with
          | false =>
            go_wp2_with (go_at_call 99; refine HR.out.mono ?_; rintro e wE ⟨rfl, xE⟩; have XE := qh (XB.out.trans xE))
            go_end0
            exact HSAME.out (by first | rfl | trivial) _ XE.out
          | true =>
            go_wp2_with (first
              | (go_at_call 99; refine HR.out.mono ?_; rintro e wE ⟨rfl, xE⟩; have XE := qh xE; clear xE)
              | (go_at_call 63; refine (HAD.out _ XE.out).mono ?_; rintro e wG hG; have HG := qh (HMORE.out (by first | rfl | trivial) _ (XB.out.trans XE.out) _ _ hG); obtain ⟨q, _, _, _, _, _, _, _, _, rfl, _⟩ := hG))
            go_end0
            exact HG.out
structure BZ.Ok (N : Nat) (b : BZ) : Prop where
  ne : b.z ≠ []
  len : b.z.length ≤ 41
  cnt : b.cnt ≤ 2000
  sum : (b.z.map fun f => 1 + PN.sizes f.kids).sum ≤ b.cnt
  leaf : ∀ f ∈ b.z, ∀ k ∈ f.kids, k.tag = 0 → k.kids = [] ∧ k.text.size ≤ N
  tag : ∀ f ∈ b.z, f.tag ≠ 0
theorem PN.sizes_len (l : List PN) : l.length ≤ PN.sizes l := by
  induction l with
  | nil => exact Nat.le_refl _
  | cons k r ih => simp only [PN.sizes, List.length_cons]; have := k.size_pos; omega
theorem PN.sizes_app (l r : List PN) : PN.sizes (l ++ r) = PN.sizes l + PN.sizes r := by
  induction l with
  | nil => simp [PN.sizes]
  | cons k l ih => simp only [List.cons_append, PN.sizes, ih]; omega
theorem PN.sizes_one (k : PN) : PN.sizes [k] = k.size := by simp [PN.sizes]
section
variable {N : Nat} {b : BZ}
theorem BZ.Ok.mono (h : b.Ok N) {M : Nat} (hM : N ≤ M) : b.Ok M := ⟨h.ne, h.len, h.cnt, h.sum, fun f hf k hk ht => ⟨(h.leaf f hf k hk ht).1, Nat.le_trans (h.leaf f hf k hk ht).2 hM⟩, h.tag⟩
theorem BZ.Ok.kids (h : b.Ok N) {f : ZF} (hf : f ∈ b.z) : f.kids.length ≤ 2000 := by
  have h1 : f.kids.length ≤ (b.z.map fun f => 1 + PN.sizes f.kids).sum := by
    generalize b.z = z at hf
    induction z with
    | nil => cases hf
    | cons g r ih =>
      rw [List.map_cons, List.sum_cons]
      rcases List.mem_cons.1 hf with rfl | hf
      · have := PN.sizes_len f.kids; omega
      · have := ih hf; omega
  have := h.sum
  have := h.cnt
  omega
theorem BZ.Ok.pop1 (h : b.Ok N) (hl : 2 ≤ b.z.length) : (⟨pop1 b.z, b.cnt⟩ : BZ).Ok N := by
  obtain ⟨z, c⟩ := b
  match z, h, hl with
  | f :: g :: r, h, _ =>
    refine ⟨List.cons_ne_nil _ _, ?_, h.cnt, ?_, fun x hx k hk ht => ?_, fun x hx => ?_⟩
    · have := h.len; show (g.put f.node :: r).length ≤ 41; simp only [List.length_cons] at this ⊢; omega
    · have := h.sum
      show ((g.put f.node :: r).map fun f => 1 + PN.sizes f.kids).sum ≤ c
      have e : PN.sizes (g.put f.node).kids = PN.sizes g.kids + (PN.sizes f.kids + 1) := by unfold ZF.put; rw [PN.sizes_app, PN.sizes_one]; rfl
      simp only [List.map_cons, List.sum_cons, e] at this ⊢
      omega
    · rcases List.mem_cons.1 (show x ∈ g.put f.node :: r from hx) with rfl | hx
      · rcases List.mem_append.1 (show k ∈ g.kids ++ [f.node] from hk) with hk | hk
        · exact h.leaf g (by simp) k hk ht
        · obtain rfl : k = f.node := by simpa using hk
          exact absurd ht (h.tag f (by simp))
      · exact h.leaf x (by simp [hx]) k hk ht
    · rcases List.mem_cons.1 (show x ∈ g.put f.node :: r from hx) with rfl | hx
      · exact h.tag g (by simp)
      · exact h.tag x (by simp [hx])
theorem BZ.Ok.popN : ∀ (n : Nat) {b : BZ}, b.Ok N → n < b.z.length → (⟨popN n b.z, b.cnt⟩ : BZ).Ok N
  | 0, b, h, _ => h
  | n + 1, b, h, hn => BZ.Ok.popN n (h.pop1 (by omega)) (by show n < (Go.Proofs.YtalaajbajgdglaaGreatDoor.pop1 b.z).length; have := pop1_len b.z; rw [if_pos (by omega)] at this; omega)
theorem BZ.Ok.add (h : b.Ok N) {n : PN} (hsz : n.size = 1) (hc : b.cnt < 2000) (hn : n.tag = 0 → n.kids = [] ∧ n.text.size ≤ N) : (b.add n).Ok N := by
  obtain ⟨z, c⟩ := b
  match z, h, hc with
  | [], h, _ => exact absurd rfl h.ne
  | f :: r, h, hc =>
    refine ⟨List.cons_ne_nil _ _, h.len, hc, ?_, fun x hx k hk ht => ?_, fun x hx => ?_⟩
    · have := h.sum
      show ((f.put n :: r).map fun f => 1 + PN.sizes f.kids).sum ≤ c + 1
      have e : PN.sizes (f.put n).kids = PN.sizes f.kids + 1 := by unfold ZF.put; rw [PN.sizes_app, PN.sizes_one, hsz]
      simp only [List.map_cons, List.sum_cons, e] at this ⊢
      omega
    · rcases List.mem_cons.1 (show x ∈ f.put n :: r from hx) with rfl | hx
      · rcases List.mem_append.1 (show k ∈ f.kids ++ [n] from hk) with hk | hk
        · exact h.leaf f (by simp) k hk ht
        · obtain rfl : k = n := by simpa using hk
          exact hn ht
      · exact h.leaf x (by simp [hx]) k hk ht
    · rcases List.mem_cons.1 (show x ∈ f.put n :: r from hx) with rfl | hx
      · exact h.tag f (by simp)
      · exact h.tag x (by simp [hx])
theorem roomB_at {c n : Nat} (h : roomB c n = true) : c < 2000 ∧ n ≤ 40 := by unfold roomB at h; simpa using h
theorem BZ.Ok.text (h : b.Ok N) (s : List UInt8) : (textZ s b).Ok (N + s.length) := by
  have hM := h.mono (show N ≤ N + s.length by omega)
  obtain ⟨z, c⟩ := b
  match z, h, hM with
  | [], h, _ => exact absurd rfl h.ne
  | f :: r, h, hM =>
    unfold textZ
    dsimp only
    split
    · exact hM
    · split
      · rename_i k hk
        obtain ⟨ks, hks, hkt⟩ := lastText_some hk
        have hl := h.leaf f (by simp) k (by rw [hks]; simp) hkt
        have hdl : f.kids.dropLast = ks := by rw [hks]; simp
        refine ⟨List.cons_ne_nil _ _, h.len, h.cnt, ?_, fun x hx y hy ht => ?_, fun x hx => ?_⟩
        · have := h.sum
          rw [hdl]
          have e : k.size = (PN.mk 0 k.attrs (bs (k.text.data.toList ++ s)) k.kids).size := by rw [PN.size_eq, PN.size_eq]; rfl
          simp only [List.map_cons, List.sum_cons, hks, PN.sizes_app, PN.sizes_one, e] at this ⊢
          omega
        · rcases List.mem_cons.1 hx with rfl | hx
          · rw [hdl] at hy
            rcases List.mem_append.1 hy with hy | hy
            · have := h.leaf f (by simp) y (by rw [hks]; simp [hy]) ht; exact ⟨this.1, by omega⟩
            · obtain rfl : y = _ := by simpa using hy
              refine ⟨hl.1, ?_⟩
              have h2 := hl.2
              show (bs (k.text.data.toList ++ s)).size ≤ N + s.length
              have e : (bs (k.text.data.toList ++ s)).size = k.text.size + s.length := by
                show (k.text.data.toList ++ s).toArray.size = _
                rw [List.size_toArray, List.length_append]
                rfl
              omega
          · have := h.leaf x (by simp [hx]) y hy ht; exact ⟨this.1, by omega⟩
        · rcases List.mem_cons.1 hx with rfl | hx
          · exact h.tag f (by simp)
          · exact h.tag x (by simp [hx])
      · split
        · rename_i hr
          exact hM.add rfl (roomB_at hr).1 fun _ => ⟨rfl, by show s.toArray.size ≤ _; rw [List.size_toArray]; omega⟩
        · exact hM
theorem findT_tag {n : List UInt8} {t : Int} (h : findT n = some t) : 1 ≤ t ∧ t ≤ 16 := by
  unfold findT at h
  cases hf : namesT.find? (·.1 == n) with
  | none => rw [hf] at h; cases h
  | some p =>
    rw [hf] at h
    cases h
    have hm := List.mem_of_find?_eq_some hf
    have hall : ∀ p ∈ namesT, 1 ≤ p.2 ∧ p.2 ≤ 16 := by decide
    exact hall p hm
theorem BZ.Ok.token (h : b.Ok N) (t : Tk) : (tokenZ t b).Ok (N + t.text.length) := by
  have hM := h.mono (show N ≤ N + t.text.length by omega)
  unfold tokenZ
  split
  · exact h.text _
  · split
    · exact hM
    · rename_i tag hf
      split
      · exact hM.popN _ (closeZ_len _ _ _ h.ne).2
      · split
        · rename_i hr
          obtain ⟨h1, h2⟩ := aheadZ_eq tag b.z h.ne
          have hP := hM.popN _ h2
          rw [← h1] at hP
          obtain ⟨h3, h4⟩ := roomB_at hr
          have ht := findT_tag hf
          unfold openZ
          split
          · exact hP.add rfl h3 fun e => absurd e (by show ¬ tag = 0; omega)
          · refine ⟨List.cons_ne_nil _ _, by show (aheadZ tag b.z).length + 1 ≤ 41; omega, by show b.cnt + 1 ≤ 2000; omega, ?_, fun x hx k hk e => ?_, fun x hx => ?_⟩
            · have := hP.sum
              simp only [List.map_cons, List.sum_cons, PN.sizes] at this ⊢
              omega
            · rcases List.mem_cons.1 hx with rfl | hx
              · cases hk
              · exact hP.leaf x hx k hk e
            · rcases List.mem_cons.1 hx with rfl | hx
              · show tag ≠ 0; omega
              · exact hP.tag x hx
        · exact hM
end
theorem startZ_ok : startZ.Ok 0 := ⟨by decide, by decide, by decide, by decide, fun f hf k hk => by simp [startZ] at hf; subst hf; simp at hk, fun f hf => by simp [startZ] at hf; subst hf; decide⟩
theorem BX.opened {g0 w w1 : World} {F : Nat → Prop} {bb : Nat} {own : Ow} {l : List FrM} {m : FrM} {ov ov' : Value} {ob : Option Nat} {b : BZ} (h : BX g0 w F bb own (l ++ [m]) ov ob b) {q : Nat} {ps : List Nat} {ks : List PN} {tag : Int} {attrs : List AttrB}
    (hp : m.ps = ps ++ [q]) (hn : m.f.kids = ks ++ [.mk tag attrs ⟨#[]⟩ []]) (k : Mv (fun g => ob = some g) w w1)
    (hr : RowP w1 (fun g => ob = some g ∨ w.heap.size ≤ g) 48 1 ov' ((l ++ [m]).length + 1) ((l ++ [m]).map (fun m => ptrV m.q) ++ [ptrV q])) :
    ∃ F' own' l' ob', BX g0 (w1.setCell ⟨bb, 0, none⟩ ov') F' bb own' l' ov' ob' ⟨⟨tag, attrs, []⟩ :: ⟨m.f.tag, m.f.attrs, ks⟩ :: zOf l, b.cnt⟩ ∧
      (∀ g, F' g → F g ∨ (w.heap.size ≤ g ∧ g < (w1.setCell ⟨bb, 0, none⟩ ov').heap.size)) ∧ (∀ g, F g → F' g) ∧ Mv F w (w1.setCell ⟨bb, 0, none⟩ ov') := by
  have hbl : bb < w.heap.size := (Array.getElem?_eq_some_iff.1 h.blk).1
  have kb : Mv (· = bb) w1 (w1.setCell ⟨bb, 0, none⟩ ov') := (Mv.refl (· = bb) w1).setCell (p := ⟨bb, 0, none⟩) (fun _ => rfl) _
  have kK : Mv (fun g => ob = some g ∨ g = bb) w (w1.setCell ⟨bb, 0, none⟩ ov') := (k.imp fun x _ hx => .inl hx).setCell (p := ⟨bb, 0, none⟩) (fun _ => .inr rfl) _
  have hKF : ∀ g, (ob = some g ∨ g = bb) → F g ∧ g0.heap.size ≤ g ∧ own g = none := fun g hg => by
    rcases hg with hg | rfl
    · have := h.rowb g hg; exact ⟨this.2.2.2.2, this.2.2.1, this.1⟩
    · exact ⟨h.bbF, h.bbg, h.nob⟩
  obtain ⟨own', av, hA, hO⟩ := (h.at_.mv kK fun g hg hK => hg (hKF g hK).2.2).push hp hn
  rcases hr.2 with ⟨h0, _⟩ | ⟨g1, cap1, cur, h1, h2, h3, h4, h5, h6, h7⟩
  · omega
  have hg1 : g1 ≠ bb ∧ g1 < w1.heap.size ∧ own g1 = none ∧ g0.heap.size ≤ g1 ∧ (F g1 ∨ w.heap.size ≤ g1) := by
    have hlt := (Array.getElem?_eq_some_iff.1 h3).1
    rcases h2 with h2 | h2
    · have := h.rowb g1 h2; exact ⟨this.2.1, hlt, this.1, this.2.2.1, .inl this.2.2.2.2⟩
    · exact ⟨by omega, hlt, Decidable.byContradiction fun e => by have := (h.at_.low g1 e).2; omega, Nat.le_trans h.old.size h2, .inr h2⟩
  have hnone : ∀ x, own x = none → own' x = none := fun x hx => Decidable.byContradiction fun e => (hO x).1 e hx
  refine ⟨fun g => F g ∨ (w.heap.size ≤ g ∧ g < (w1.setCell ⟨bb, 0, none⟩ ov').heap.size), own', _, some g1, ⟨hA, ?_, hnone _ h.nob, ?_, fun g hg => ?_, ?_, by simp, fun g hg => .inl (h.inF g ((hO g).1 hg)), .inl h.bbF, h.bbg, kK.toExt h.old fun g hg => (hKF g hg).2.1⟩, fun g hg => hg, fun g hg => .inl hg, kK.imp fun g _ hg => (hKF g hg).1⟩
  · exact heap_setCell_same (i := 0) (k.block h.blk fun e => (h.rowb bb e).2.1 rfl) _
  · have hr2 : RowP w1 (fun g => some g1 = some g) 48 1 ov' ((l ++ [m]).length + 1) ((l ++ [m]).map (fun m => ptrV m.q) ++ [ptrV q]) := ⟨hr.1, .inr ⟨g1, cap1, cur, h1, rfl, h3, h4, h5, h6, h7⟩⟩
    have hr3 := hr2.mv kb fun g hg e => by cases hg; exact hg1.1 e
    simpa using hr3
  · cases hg
    refine ⟨hnone _ hg1.2.2.1, hg1.1, hg1.2.2.2.1, Nat.lt_of_lt_of_le hg1.2.1 kb.size, hg1.2.2.2.2.imp id fun h => ⟨h, Nat.lt_of_lt_of_le hg1.2.1 kb.size⟩⟩
  · rw [zOf_snoc, zOf_snoc]
theorem Mv.comp {F F1 : Nat → Prop} {w w1 w2 : World} (h : Mv F w w1) (k : Mv F1 w1 w2) (hF : ∀ g, F1 g → F g ∨ w.heap.size ≤ g) : Mv F w w2 :=
  ⟨k.os.trans h.os, k.tape.trans h.tape, k.output.trans h.output, Nat.le_trans h.size k.size, fun x hx hn => (k.rest x (Nat.lt_of_lt_of_le hx h.size) fun h1 => (hF x h1).elim hn (by omega)).trans (h.rest x hx hn)⟩
structure RBx (g0 w : World) (F : Nat → Prop) (bb : Nat) (b : BZ) (w' : World) (F' : Nat → Prop) : Prop where
  out : ∃ (own : Ow) (l : List FrM) (ov : Value) (ob : Option Nat), BX g0 w' F' bb own l ov ob b
  new : ∀ g, F' g → F g ∨ (w.heap.size ≤ g ∧ g < w'.heap.size)
  old : ∀ g, F g → F' g
  mv : Mv F w w'
theorem RB.x {g0 w : World} {F : Nat → Prop} {bb : Nat} {b : BZ} {e : Ending} {w' : World} (h : RB g0 w F bb b e w') : e = .returned (.tuple #[]) ∧ ∃ F', RBx g0 w F bb b w' F' := by
  obtain ⟨h1, F', own, l, ov, ob, h2, h3, h4, h5⟩ := h
  exact ⟨h1, F', ⟨own, l, ov, ob, h2⟩, h3, h4, h5⟩
theorem RBx.rb {g0 w : World} {F F' : Nat → Prop} {bb : Nat} {b : BZ} {w' : World} (h : RBx g0 w F bb b w' F') : RB g0 w F bb b (.returned (.tuple #[])) w' := by
  obtain ⟨own, l, ov, ob, h2⟩ := h.out
  exact ⟨rfl, F', own, l, ov, ob, h2, h.new, h.old, h.mv⟩
theorem RBx.comp {g0 w w1 w2 : World} {F F1 F2 : Nat → Prop} {bb : Nat} {b1 b2 : BZ} (h : RBx g0 w F bb b1 w1 F1) (k : RBx g0 w1 F1 bb b2 w2 F2) : RBx g0 w F bb b2 w2 F2 :=
  ⟨k.out, fun g hg => by
    rcases k.new g hg with h1 | h1
    · rcases h.new g h1 with h2 | h2
      · exact .inl h2
      · exact .inr ⟨h2.1, Nat.lt_of_lt_of_le h2.2 k.mv.size⟩
    · exact .inr ⟨Nat.le_trans h.mv.size h1.1, h1.2⟩, fun g hg => k.old g (h.old g hg), h.mv.comp k.mv fun g hg => (h.new g hg).imp id fun h => h.1⟩
theorem RBx.after {g0 w w1 w2 : World} {F F2 : Nat → Prop} {bb : Nat} {b : BZ} (x : Ext w w1) (k : RBx g0 w1 F bb b w2 F2) : RBx g0 w F bb b w2 F2 :=
  ⟨k.out, fun g hg => (k.new g hg).imp id fun h => ⟨Nat.le_trans x.size h.1, h.2⟩, k.old, Mv.after x k.mv⟩
theorem RBx.ext {g0 w w1 w2 : World} {F F1 : Nat → Prop} {bb : Nat} {b : BZ} (h : RBx g0 w F bb b w1 F1) (x : Ext w1 w2) : RBx g0 w F bb b w2 F1 := by
  obtain ⟨own, l, ov, ob, h2⟩ := h.out
  exact ⟨⟨own, l, ov, ob, h2.ext x⟩, fun g hg => (h.new g hg).imp id fun h => ⟨h.1, Nat.lt_of_lt_of_le h.2 x.size⟩, h.old, h.mv.ext x⟩
theorem RBx.cell {g0 w w' : World} {F F' : Nat → Prop} {bb : Nat} {b : BZ} (h : RBx g0 w F bb b w' F') {g o : Nat} {v : Value} (hc : w.cell? ⟨g, o, none⟩ = some v) (hg : ¬ F g) : w'.cell? ⟨g, o, none⟩ = some v := h.mv.cell hc hg

section
variable {g0 w : World} {F : Nat → Prop} {bb N : Nat} {own : Ow} {l : List FrM} {ov : Value} {ob : Option Nat} {b : BZ}
theorem text_rb (h : BX g0 w F bb own l ov ob b) (ok : b.Ok N) (hN : N ≤ 1000000000000) (s : List UInt8) (hs : s.length ≤ 1000000000000) : Calls Tryz.prog 57 #[.pointer (some ⟨bb, 0, none⟩), .string (bs s)] w (RB g0 w F bb (textZ s b)) := by
  obtain ⟨l', m, rfl⟩ := h.snoc
  have hbz : b.z = m.f :: zOf l' := by rw [h.z, zOf_snoc]
  have hm : m.f ∈ b.z := by rw [hbz]; simp
  exact text_any h (by have := ok.len; omega) (by have := ok.kids hm; omega) (by have := ok.cnt; omega) (fun k hk ht => ⟨(ok.leaf _ hm k hk ht).1, Nat.le_trans (ok.leaf _ hm k hk ht).2 hN⟩) s hs
theorem close_rb (h : BX g0 w F bb own l ov ob b) (ok : b.Ok N) {p q : Int → Bool} {fp fq : Value} (hp : IsF p fp w) (hq : IsF q fq w) : Calls Tryz.prog 58 #[.pointer (some ⟨bb, 0, none⟩), fp, fq] w (RB g0 w F bb ⟨closeZ p q b.z, b.cnt⟩) := by
  obtain ⟨g, cap, hob, hov, hV⟩ := h.view (by have := ok.len; omega)
  refine (close_any hV hp hq).mono ?_
  rintro e w' ⟨h1, h2, h3⟩
  rw [h.tags, List.length_map] at h3
  have hlt := (closeZ_len p q b.z ok.ne).2
  rw [h.len] at hlt
  obtain ⟨own', l', ov', h4⟩ := h.close hov hob hlt h2 h3
  exact ⟨h1, F, own', l', ov', ob, h4, fun g hg => .inl hg, fun g hg => hg, h2.imp fun x _ hx => by subst hx; exact h.bbF⟩
theorem ahead_rb (h : BX g0 w F bb own l ov ob b) (ok : b.Ok N) (tag : Int) : Calls Tryz.prog 62 #[.pointer (some ⟨bb, 0, none⟩), .int .i64 tag] w (RB g0 w F bb ⟨aheadZ tag b.z, b.cnt⟩) := by
  obtain ⟨g, cap, hob, hov, hV⟩ := h.view (by have := ok.len; omega)
  refine (ahead_any hV tag).mono ?_
  rintro e w' ⟨h1, h2, h3⟩
  rw [h.tags, List.length_map] at h3
  obtain ⟨ha, hlt⟩ := aheadZ_eq tag b.z ok.ne
  rw [h.len] at hlt
  obtain ⟨own', l', ov', h4⟩ := h.close hov hob hlt h2 h3
  rw [ha]
  exact ⟨h1, F, own', l', ov', ob, h4, fun g hg => .inl hg, fun g hg => hg, h2.imp fun x _ hx => by subst hx; exact h.bbF⟩
theorem fits_rb (h : BX g0 w F bb own l ov ob b) (ok : b.Ok N) (tag : Int) : Calls Tryz.prog 61 #[.pointer (some ⟨bb, 0, none⟩), .int .i64 tag] w (RBool (roomB b.cnt (aheadZ tag b.z).length) w) := by
  obtain ⟨g, cap, hob, hov, hV⟩ := h.view (by have := ok.len; omega)
  obtain ⟨ha, hlt⟩ := aheadZ_eq tag b.z ok.ne
  have h1 := fits_any hV tag
  rw [h.tags, List.length_map] at h1
  rw [ha, popN_len _ _ hlt, h.len]
  exact h1
theorem add_rb (h : BX g0 w F bb own l ov ob b) (ok : b.Ok N) {tag : Int} {attrs : List AttrB} {aa : Option Addr} {an ac : Nat} {text : ByteArray} (ha : RowP g0 (fun _ => True) 104 2 (.slice aa an ac) attrs.length (attrCells attrs)) :
    Calls Tryz.prog 63 #[.pointer (some ⟨bb, 0, none⟩), .agg #[.int .i64 tag, .slice aa an ac, .string text, .slice none 0 0]] w (RAdd g0 w F bb b (.mk tag attrs text [])) := by
  obtain ⟨l', m, rfl⟩ := h.snoc
  have hm : m.f ∈ b.z := by rw [h.z, zOf_snoc]; simp
  exact add_any h (by have := ok.len; omega) (by have := ok.kids hm; omega) (by have := ok.cnt; omega) ha
end
theorem opened_z {b1 : BZ} {n : PN} {f : ZF} {zl : ZS} {ks : List PN} (hne : b1.z ≠ []) (h : (b1.add n).z = f :: zl) (hk : f.kids = ks ++ [n]) : b1.z = ⟨f.tag, f.attrs, ks⟩ :: zl ∧ (b1.add n).cnt = b1.cnt + 1 := by
  obtain ⟨z, c⟩ := b1
  match z, hne, h with
  | f0 :: r, _, h =>
    have h : f0.put n :: r = f :: zl := h
    injection h with h1 h2
    subst h1 h2
    have hk : f0.kids ++ [n] = ks ++ [n] := hk
    have e := List.append_cancel_right hk
    subst e
    exact ⟨rfl, rfl⟩
theorem token_any {g0 w : World} {F : Nat → Prop} {bb N : Nat} {own : Ow} {l : List FrM} {ov : Value} {ob : Option Nat} {b : BZ} (h : BX g0 w F bb own l ov ob b) (ok : b.Ok N) (hN : N ≤ 1000000000000) (hF : ∀ g, F g → g < w.heap.size) (t : Tk)
    (hname : ∀ c ∈ t.name, c.toNat < 128 ∧ (c.toNat < 65 ∨ 90 < c.toNat)) (hnl : t.name.length ≤ 100000) (htx : t.text.length ≤ 1000000000000) {aa : Option Addr} {an ac : Nat} {sf lo hi : Int} (ha : RowP g0 (fun _ => True) 104 2 (.slice aa an ac) t.attrs.length (attrCells t.attrs)) :
    Calls Tryz.prog 25 #[.pointer (some ⟨bb, 0, none⟩), .agg #[.int .i64 t.kind, .string (bs t.name), .string (bs t.text), .slice aa an ac, .int .i64 sf, .int .i64 lo, .int .i64 hi]] w (RB g0 w F bb (tokenZ t b)) := by
  have HH := qh h
  have HOK := qh ok
  have HA := qh ha
  have HF := qh hF
  have HFD := qh (fun W => Find_any t.name hname hnl W)
  have HTX := qh (fun (W : World) (x : Ext w W) => text_rb (h.ext x) ok hN t.text htx)
  have hb0 := heap_alloc_new w (.cells #[.int .i64 t.kind, .string (bs t.name), .string (bs t.text), .slice aa an ac, .int .i64 sf, .int .i64 lo, .int .i64 hi] 55)
  have x0 := (Ext.refl w).alloc (.cells #[.int .i64 t.kind, .string (bs t.name), .string (bs t.text), .slice aa an ac, .int .i64 sf, .int .i64 lo, .int .i64 hi] 55)
  obtain ⟨kd, hkd⟩ : ∃ kd, t.kind = kd := ⟨_, rfl⟩
  obtain ⟨nm, hnm⟩ : ∃ nm, bs t.name = nm := ⟨_, rfl⟩
  obtain ⟨tx, htx2⟩ : ∃ tx, bs t.text = tx := ⟨_, rfl⟩
  have HKD := qh hkd
  rw [hnm] at HFD hb0 x0 ⊢
  rw [htx2] at HTX hb0 x0 ⊢
  rw [hkd] at hb0 x0 ⊢
  clear h ok ha hN hF hname hnl htx hkd hnm htx2
  go_enter Tryz.func25, Tryz.ntmps25
  go_upto_region 1 with fail
  have hts : w.heap.size < (w.alloc (.cells #[.int .i64 kd, .string nm, .string tx, .slice aa an ac, .int .i64 sf, .int .i64 lo, .int .i64 hi] 55)).heap.size := by simp
  obtain ⟨tb, htb⟩ : ∃ tb, w.heap.size = tb := ⟨_, rfl⟩
  have HTB := qh htb
  rw [htb] at hb0 hts ⊢
  generalize w.alloc (.cells #[.int .i64 kd, .string nm, .string tx, .slice aa an ac, .int .i64 sf, .int .i64 lo, .int .i64 hi] 55) = w0 at hb0 x0 hts ⊢
  have X0 := qh x0
  have HB0 := qh hb0
  have HTS := qh hts
  have c1 := cellOf hb0 (i := 1) (v := .string nm) rfl
  clear hb0 x0 hts htb
  unfold FindIs at HFD
  obtain ⟨fo, hfo⟩ : ∃ fo, findT t.name = fo := ⟨_, rfl⟩
  have HFO := qh hfo
  rw [hfo] at HFD
  obtain ⟨z, hz⟩ : ∃ z, fo.getD 0 = z := ⟨_, rfl⟩
  obtain ⟨okb, hok⟩ : ∃ okb, fo.isSome = okb := ⟨_, rfl⟩
  rw [hz, hok] at HFD
  have HZ := qh (And.intro hz hok)
  clear hfo hz hok
  go_upto_region 2 with (go_at_call 56; refine (HFD.out _).mono ?_; rintro e w1 ⟨rfl, x1⟩)
  have XW : Hid (Ext w (w1.alloc (.cells #[.int .i64 z] 3))) := qh ((X0.out.trans x1).alloc _)
  have HGB : Hid (∃ gb, gb = w1.heap.size ∧ w.heap.size ≤ gb ∧ gb < (w1.alloc (.cells #[.int .i64 z] 3)).heap.size ∧ (w1.alloc (.cells #[.int .i64 z] 3)).cell? ⟨gb, 0, none⟩ = some (.int .i64 z)) := qh ⟨_, rfl, (X0.out.trans x1).size, by simp, cellOf (heap_alloc_new w1 _) rfl⟩
  have HT2 : Hid ((w1.alloc (.cells #[.int .i64 z] 3)).heap[tb]? = some (.cells #[.int .i64 kd, .string nm, .string tx, .slice aa an ac, .int .i64 sf, .int .i64 lo, .int .i64 hi] 55 (0, 0))) := qh ((x1.alloc _).block HB0.out)
  have HTSZ : Hid (tb < (w1.alloc (.cells #[.int .i64 z] 3)).heap.size) := qh (Nat.lt_of_lt_of_le HTS.out (x1.alloc _).size)
  obtain ⟨gb, hgb, hgl, hgs, cg⟩ := HGB.out
  rw [← hgb]
  generalize w1.alloc (.cells #[.int .i64 z] 3) = w2 at XW HT2 HTSZ hgs cg ⊢
  have HGL := qh (And.intro hgl hgs)
  have k0 := cellOf HT2.out (i := 0) (v := .int .i64 kd) rfl
  have k2 := cellOf HT2.out (i := 2) (v := .string tx) rfl
  have k3 := cellOf HT2.out (i := 3) (v := .slice aa an ac) rfl
  clear c1 x1 hgb hgl hgs HGB
  by_cases h1 : kd = 1
  · have d1 : (kd == 1) = true := by simpa using h1
    have e : tokenZ t b = textZ t.text b := by unfold tokenZ; rw [if_pos (HKD.out.trans h1)]
    have E := qh e
    clear h1 e
    go_wp2_with (go_at_call 57; refine (HTX.out _ XW.out).mono ?_)
    intro e w3 h3
    have H3 := qh (RB.after XW.out h3)
    obtain ⟨rfl, _⟩ := RB.x h3
    clear h3
    go_wp2_with fail
    go_end0
    rw [E.out]
    exact H3.out
  have d1 : (kd == 1) = false := by simpa using h1
  have hk1 : ¬ t.kind = 1 := by rw [HKD.out]; exact h1
  cases fo with
  | none =>
    have e : tokenZ t b = b := by unfold tokenZ; rw [if_neg hk1, HFO.out]
    obtain ⟨rfl, rfl⟩ := HZ.out
    have E := qh e
    have FIN := qh (RB.same HH.out XW.out)
    clear h1 hk1 e
    go_wp2_with fail
    go_end0
    rw [E.out]
    exact FIN.out
  | some tag =>
    obtain ⟨rfl, rfl⟩ := HZ.out
    have cg : w2.cell? ⟨gb, 0, none⟩ = some (.int .i64 tag) := cg
    by_cases h3 : kd = 3
    · have d3 : (kd == 3) = true := by simpa using h3
      have e : tokenZ t b = ⟨closeZ (· == tag) (fun _ => false) b.z, b.cnt⟩ := by unfold tokenZ; rw [if_neg hk1, HFO.out]; dsimp only; rw [if_pos (HKD.out.trans h3)]
      have E := qh e
      have HCL := qh (close_rb (HH.out.ext XW.out) HOK.out (fn_tok cg) (fn_none w2))
      clear h1 h3 hk1 e
      go_wp2_with (go_at_call 58; refine HCL.out.mono ?_)
      intro e w3 h3
      have H3 := qh (RB.after XW.out h3)
      obtain ⟨rfl, _⟩ := RB.x h3
      clear h3
      go_wp2_with fail
      go_end0
      rw [E.out]
      exact H3.out
    have d3 : (kd == 3) = false := by simpa using h3
    have hk3 : ¬ t.kind = 3 := by rw [HKD.out]; exact h3
    have HFT := qh (fits_rb (HH.out.ext XW.out) HOK.out tag)
    have HTK : Hid (tokenZ t b = if roomB b.cnt (aheadZ tag b.z).length then openZ tag t.attrs ⟨aheadZ tag b.z, b.cnt⟩ else b) := qh (by unfold tokenZ; rw [if_neg hk1, HFO.out]; dsimp only; rw [if_neg hk3])
    cases hrm : roomB b.cnt (aheadZ tag b.z).length with
    | false =>
      rw [hrm] at HFT
      have e : tokenZ t b = b := by rw [HTK.out, hrm]; rfl
      have E := qh e
      have FIN := qh (fun W (x : Ext w2 W) => RB.same HH.out (XW.out.trans x))
      clear h1 h3 hk1 hk3 e hrm
      go_wp2_with (go_at_call 61; refine HFT.out.mono ?_; rintro e w3 ⟨rfl, x3⟩)
      go_end0
      rw [E.out]
      exact FIN.out _ x3
    | true =>
      rw [hrm] at HFT
      have HTK2 := qh (HTK.out.trans (by rw [hrm]; rfl) : tokenZ t b = openZ tag t.attrs ⟨aheadZ tag b.z, b.cnt⟩)
      have HOK2 : Hid ((⟨aheadZ tag b.z, b.cnt⟩ : BZ).Ok N) := qh (by
        obtain ⟨ha, hlt⟩ := aheadZ_eq tag b.z HOK.out.ne
        rw [ha]
        exact HOK.out.popN _ hlt)
      have HRM := qh hrm
      have HCLS := qh (fun W => Class_any W tag)
      have HNF : Hid (¬ F tb ∧ ¬ F gb) := qh ⟨fun e => by have := HF.out _ e; have := HTB.out; omega, fun e => by have := HF.out _ e; have := HGL.out; omega⟩
      clear h1 h3 hk1 hk3 hrm k2
      have HAHD := qh (fun W (x : Ext w2 W) => ahead_rb (HH.out.ext (XW.out.trans x)) HOK.out tag)
      go_wp2_with (go_at_call 61; refine HFT.out.mono ?_)
      rintro e w3 ⟨rfl, x3⟩
      have X3 := qh x3
      replace cg := x3.cell cg
      replace k3 := x3.cell k3
      clear x3
      go_wp2_with fail
      refine (HAHD.out _ X3.out).mono ?_
      intro e w4 h4
      obtain ⟨rfl, F1, H4⟩ := RB.x h4
      have X34 := qh (RBx.after (XW.out.trans X3.out) H4)
      replace cg := H4.cell cg HNF.out.2
      replace k3 := H4.cell k3 HNF.out.1
      have HNF1 : Hid (¬ F1 tb ∧ ¬ F1 gb) := qh ⟨fun e => by
        rcases H4.new _ e with h | h
        · exact HNF.out.1 h
        · have := HTSZ.out; have := X3.out.size; omega, fun e => by
        rcases H4.new _ e with h | h
        · exact HNF.out.2 h
        · have := HGL.out; have := X3.out.size; omega⟩
      have HADD : Hid (∃ (own : Ow) (l : List FrM) (ov : Value) (ob : Option Nat), BX g0 w4 F1 bb own l ov ob ⟨aheadZ tag b.z, b.cnt⟩) := qh H4.out
      clear h4 H4
      obtain ⟨own1, l1, ov1, ob1, HX1⟩ := HADD.out
      have HX := qh HX1
      have HAD := qh (add_rb HX1 HOK2.out (tag := tag) (text := ⟨#[]⟩) HA.out)
      clear HX1 HADD
      go_wp2_with fail
      refine HAD.out.mono ?_
      intro e w5 hA
      obtain ⟨q, F2, own2, l2, m2, ov2, ob2, ps, ks, rfl, HX2, hps, hks, hnew, hold, hmv⟩ := hA
      have K5 : Hid (RBx g0 w F bb ((⟨aheadZ tag b.z, b.cnt⟩ : BZ).add (.mk tag t.attrs ⟨#[]⟩ [])) w5 F2) := qh (X34.out.comp ⟨⟨own2, _, ov2, ob2, HX2⟩, hnew, hold, hmv⟩)
      replace cg := hmv.cell cg HNF1.out.2
      have H5 := qh (And.intro HX2 (And.intro hps hks))
      clear k3 HX2 hps hks hnew hold hmv
      go_wp2_with (go_at_call 64; refine (HCLS.out _).mono ?_)
      rintro e w6 ⟨rfl, x6⟩
      have K6 := qh (K5.out.ext x6)
      have H6 := qh (H5.out.1.ext x6)
      clear cg x6
      by_cases h5 : clsT tag = 5
      · have d5 : (clsT tag != 5) = false := by simp [h5]
        have E : Hid (tokenZ t b = (⟨aheadZ tag b.z, b.cnt⟩ : BZ).add (.mk tag t.attrs ⟨#[]⟩ [])) := qh (HTK2.out.trans (by unfold openZ; rw [if_pos h5]))
        rw [h5]
        clear h5
        go_wp2_with fail
        go_end0
        rw [E.out]
        exact K6.out.rb
      · have d5 : (clsT tag != 5) = true := by simpa using h5
        obtain ⟨hz1, hz2⟩ := opened_z HOK2.out.ne (H5.out.1.z.trans (zOf_snoc _ _)) H5.out.2.2
        have E : Hid (tokenZ t b = ⟨⟨tag, t.attrs, []⟩ :: ⟨m2.f.tag, m2.f.attrs, ks⟩ :: zOf l2, ((⟨aheadZ tag b.z, b.cnt⟩ : BZ).add (.mk tag t.attrs ⟨#[]⟩ [])).cnt⟩) := qh (HTK2.out.trans (by unfold openZ; rw [if_neg h5, hz2]; dsimp only at hz1 ⊢; rw [hz1]))
        have hzl : ((⟨aheadZ tag b.z, b.cnt⟩ : BZ).add (.mk tag t.attrs ⟨#[]⟩ [])).z.length ≤ 60000 := by
          rw [(BZ.add_ne HOK2.out.ne).2.1]; have := HOK2.out.len; omega
        obtain ⟨g, cap, hob, hov, hV⟩ := H6.out.view hzl
        have hl60 : (l2 ++ [m2]).length ≤ 41 := by
          rw [← H6.out.len, (BZ.add_ne HOK2.out.ne).2.1]; exact HOK2.out.len
        have cb := cellOf H6.out.blk (i := 0) (v := ov2) rfl
        rw [hov] at cb
        have fb := freeOf H6.out.blk 0
        have HOV := qh (And.intro hob hov)
        have HL60 := qh hl60
        obtain ⟨ln, hln⟩ : ∃ ln, (l2 ++ [m2]).length = ln := ⟨_, rfl⟩
        have HLN := qh hln
        rw [hln] at cb
        obtain ⟨i0, hi, hz0, hz1', hz2'⟩ := info_parts infoEl
        have Hi := qh hi
        have Hz0 := qh hz0
        have Hz1 := qh hz1'
        have Hz2 := qh hz2'
        obtain ⟨c, hcc⟩ : ∃ c, clsT tag = c := ⟨_, rfl⟩
        rw [hcc] at d5 ⊢
        clear h5 hz1 hz2 hzl hob hov hV hl60 hln hi hz0 hz1' hz2' hcc
        go_wp2_with (at_builtin; refine wpList_append_row rfl _ _ 49 rfl 48 i0 (.pointer none) 1 8 Tryz.underlying49 Hi.out Hz0.out Hz1.out Hz2.out rfl (by decide) (fun g => ob2 = some g) (.slice (some ⟨g, 0, none⟩) ln cap) (l2 ++ [m2]).length ((l2 ++ [m2]).map fun m => ptrV m.q) rfl ?c1 ⟨w6.heap.size, 0, none⟩ 1 1 [.pointer (some ⟨q, 0, none⟩)] rfl rfl ?c2 ?c3 (by decide) ?c4 ?c5 ?_)
        case c1 =>
          have h1 := RowP.ext H6.out.row ((Ext.refl w6).alloc (.cells #[.pointer (some ⟨q, 0, none⟩)] 48))
          have e : ov2 = .slice (some ⟨g, 0, none⟩) ln cap := HOV.out.2.trans (by rw [HLN.out])
          rw [← e]
          exact h1
        case c2 => exact cell_one_new _ _ _
        case c3 => simp [Value.oneCell']
        case c4 => have := HL60.out; unfold maxLen; omega
        case c5 => have := HL60.out; omega
        intro v' w7 row hrw hg hrow
        have xa := (Ext.refl w6).alloc (.cells #[.pointer (some ⟨q, 0, none⟩)] 48)
        have k7 : Mv (fun g => ob2 = some g) w6 w7 := (Mv.ofExt xa).grown hg (fun k hk _ => hrow k hk)
        have hrw2 : RowP w7 (fun g => ob2 = some g ∨ w6.heap.size ≤ g) 48 1 v' ((l2 ++ [m2]).length + 1) ((l2 ++ [m2]).map (fun m => ptrV m.q) ++ [ptrV q]) := by
          have h1 := RowP.imp (q := fun g => ob2 = some g ∨ w6.heap.size ≤ g) hrw (fun g _ hg => Or.imp id (fun h => Nat.le_of_succ_le h) hg)
          simpa [ptrV] using h1
        obtain ⟨va, vn, vc, hv'⟩ : ∃ va vn vc, v' = .slice va vn vc := by
          obtain ⟨va, vc, e, _⟩ := RowRd.len_of (RowP.rd hrw2)
          exact ⟨va, _, vc, e⟩
        obtain ⟨F3, own3, l3, ob3, h31, h32, h33, h34⟩ := BX.opened H6.out H5.out.2.1 H5.out.2.2 k7 hrw2
        have K7 : Hid (RBx g0 w F bb _ (w7.setCell ⟨bb, 0, none⟩ v') F3) := qh (K6.out.comp ⟨⟨own3, l3, v', ob3, h31⟩, h32, h33, h34⟩)
        have hbn : ¬ ob2 = some bb := fun e => (H6.out.rowb bb e).2.1 rfl
        have cb := k7.cell cb hbn
        have fb : w7.frozen? ⟨bb, 0, none⟩ = false := freeOf (k7.block H6.out.blk hbn) 0
        subst hv'
        clear hrw hg hrow xa k7 hrw2 h31 h32 h33 h34 hbn
        go_wp2_with fail
        go_end0
        rw [E.out]
        exact K7.out.rb
def EPlainIs (g0 : World) (n : PN) (w : World) (e : Ending) (w' : World) : Prop := ∃ v F, e = .returned v ∧ OwnN g0 w' n v F ∧ Ext w w' ∧ ∀ x, F x → w.heap.size ≤ x ∧ x < w'.heap.size
structure EPAt (g0 w1 wr : World) (b : Nat) (tag : Int) (av : Value) (text : ByteArray) (kids : List PN) (k : Nat) : Prop where
  ext : Ext w1 wr
  row : ∃ (kv : Value) (xs : List Value) (G : Nat → Nat → Prop), wr.heap[b]? = some (.cells #[.int .i64 tag, av, .string text, kv] 26 (0, 0)) ∧ RowP wr (fun x => w1.heap.size ≤ x ∧ x ≠ b) 26 4 kv k xs ∧ (∀ y, kv.ownBlock = some y → w1.heap.size ≤ y ∧ y ≠ b ∧ y < wr.heap.size) ∧
    (∀ (j : Nat) (x : PN), j < k → kids[j]? = some x → ∃ c0 c1 c2 c3, xs[j * 4]? = some c0 ∧ xs[j * 4 + 1]? = some c1 ∧ xs[j * 4 + 2]? = some c2 ∧ xs[j * 4 + 3]? = some c3 ∧ OwnN g0 wr x (.agg #[c0, c1, c2, c3]) (G j)) ∧
    (∀ j x, j < k → G j x → w1.heap.size ≤ x ∧ x < wr.heap.size ∧ x ≠ b ∧ kv.ownBlock ≠ some x) ∧ (∀ i j x, i < k → j < k → i ≠ j → G i x → ¬ G j x)
theorem EPAt.init {g0 w1 wr : World} {b : Nat} {tag : Int} {av : Value} {text : ByteArray} {kids : List PN} (x : Ext w1 wr) (hb : wr.heap[b]? = some (.cells #[.int .i64 tag, av, .string text, .slice none 0 0] 26 (0, 0))) : EPAt g0 w1 wr b tag av text kids 0 :=
  ⟨x, .slice none 0 0, [], fun _ _ => False, hb, ⟨rfl, .inl ⟨rfl, none, rfl⟩⟩, (fun y e => by cases e), fun j x hj => by omega, fun j x hj => by omega, fun i j x hi => by omega⟩
theorem EPAt.step {g0 w1 wr wk cw wA : World} {b : Nat} {tag : Int} {av kv v' : Value} {text : ByteArray} {kids : List PN} {k : Nat} {xs : List Value} {G : Nat → Nat → Prop} {F' : Nat → Prop} {x : PN} {c0 c1 c2 c3 : Value} {row : Option Nat}
    (hx : Ext w1 wr) (hb : wr.heap[b]? = some (.cells #[.int .i64 tag, av, .string text, kv] 26 (0, 0))) (hb1 : w1.heap.size ≤ b) (hr : RowP wr (fun x => w1.heap.size ≤ x ∧ x ≠ b) 26 4 kv k xs) (hkb : ∀ y, kv.ownBlock = some y → w1.heap.size ≤ y ∧ y ≠ b ∧ y < wr.heap.size)
    (hk : ∀ (j : Nat) (x : PN), j < k → kids[j]? = some x → ∃ c0 c1 c2 c3, xs[j * 4]? = some c0 ∧ xs[j * 4 + 1]? = some c1 ∧ xs[j * 4 + 2]? = some c2 ∧ xs[j * 4 + 3]? = some c3 ∧ OwnN g0 wr x (.agg #[c0, c1, c2, c3]) (G j))
    (hG : ∀ j x, j < k → G j x → w1.heap.size ≤ x ∧ x < wr.heap.size ∧ x ≠ b ∧ kv.ownBlock ≠ some x) (hd : ∀ i j x, i < k → j < k → i ≠ j → G i x → ¬ G j x)
    (hn : kids[k]? = some x) (hxk : Ext wr wk) (ho : OwnN g0 wk x (.agg #[c0, c1, c2, c3]) F') (hF : ∀ x, F' x → wr.heap.size ≤ x ∧ x < wk.heap.size) (hxc : Ext wk cw)
    (hA : RowP wA (fun y => (w1.heap.size ≤ y ∧ y ≠ b ∧ kv.ownBlock = some y) ∨ cw.heap.size ≤ y) 26 4 v' (k + 1) (xs ++ [c0, c1, c2, c3])) (hgA : cw.grownBy wA row) (hrow : ∀ z, row = some z → w1.heap.size ≤ z ∧ z ≠ b ∧ kv.ownBlock = some z) :
    EPAt g0 w1 (wA.setCell ⟨b, 3, none⟩ v') b tag av text kids (k + 1) := by
  have hbl : b < wr.heap.size := (Array.getElem?_eq_some_iff.1 hb).1
  have hxc2 : Ext wr cw := hxk.trans hxc
  have hs1 := Ext.size hx
  have hs2 := Ext.size hxk
  have hs3 := Ext.size hxc
  have hs4 := hgA.size
  have hlen : xs.length = k * 4 := hr.1
  have kp : Mv (· = b) wA (wA.setCell ⟨b, 3, none⟩ v') := (Mv.refl (· = b) wA).setCell (p := ⟨b, 3, none⟩) (fun _ => rfl) _
  have hs5 := kp.size
  have hbA : wA.heap[b]? = some (.cells #[.int .i64 tag, av, .string text, kv] 26 (0, 0)) := by
    rw [hgA.block b (by omega) (fun e => (hrow b e.symm).2.1 rfl)]
    exact hxc2.block hb
  have vown : ∀ y, v'.ownBlock = some y → ((w1.heap.size ≤ y ∧ y ≠ b ∧ kv.ownBlock = some y) ∨ cw.heap.size ≤ y) ∧ y < wA.heap.size := fun y hy => by
    rcases hA.2 with ⟨h0, _⟩ | ⟨gb, cap, cur, h8, h9, h10, _⟩
    · omega
    · rw [h8] at hy; cases hy; exact ⟨h9, (Array.getElem?_eq_some_iff.1 h10).1⟩
  have kb : ∀ (y : Nat) (o : Obj), cw.heap[y]? = some o → y ≠ b → kv.ownBlock ≠ some y → (wA.setCell ⟨b, 3, none⟩ v').heap[y]? = some o := fun y o hy hne hn =>
    kp.block ((hgA.block y (Array.getElem?_eq_some_iff.1 hy).1 (fun e => hn (hrow y e.symm).2.2)).trans hy) hne
  have nol : ∀ y, wr.heap.size ≤ y → kv.ownBlock ≠ some y := fun y hy e => by have := hkb y e; omega
  let G2 : Nat → Nat → Prop := fun j => if j < k then G j else F'
  have e1 : ∀ j, j < k → G2 j = G j := fun j hj => if_pos hj
  have e2 : G2 k = F' := if_neg (by omega)
  have hG2 : ∀ j x, j < k + 1 → G2 j x → w1.heap.size ≤ x ∧ x < cw.heap.size ∧ x ≠ b ∧ kv.ownBlock ≠ some x := fun j y hj hy => by
    by_cases h : j < k
    · rw [e1 j h] at hy
      have := hG j y h hy
      exact ⟨this.1, by omega, this.2.2⟩
    · obtain rfl : j = k := by omega
      rw [e2] at hy
      have := hF y hy
      exact ⟨by omega, by omega, by omega, nol y this.1⟩
  refine ⟨(hx.trans hxc2).grown hgA (fun z hz => (hrow z hz).1) |>.setCell hb1 _, v', xs ++ [c0, c1, c2, c3], G2, heap_setCell_same (i := 3) hbA _, ?_, fun y hy => ?_, fun j y hj hy => ?_, fun j y hj hy => ?_, fun i j y hi hj hij hy => ?_⟩
  · refine (hA.mv kp fun g hg e => ?_).imp fun g _ hg => ?_
    · rcases hg with hg | hg
      · exact hg.2.1 e
      · omega
    · rcases hg with hg | hg
      · exact ⟨hg.1, hg.2.1⟩
      · exact ⟨by omega, by omega⟩
  · obtain ⟨h1, h2⟩ := vown y hy
    rcases h1 with h1 | h1
    · exact ⟨h1.1, h1.2.1, by omega⟩
    · exact ⟨by omega, by omega, by omega⟩
  · by_cases h : j < k
    · obtain ⟨d0, d1, d2, d3, q0, q1, q2, q3, q4⟩ := hk j y h hy
      refine ⟨d0, d1, d2, d3, by rw [List.getElem?_append_left (by omega)]; exact q0, by rw [List.getElem?_append_left (by omega)]; exact q1, by rw [List.getElem?_append_left (by omega)]; exact q2, by rw [List.getElem?_append_left (by omega)]; exact q3, ?_⟩
      rw [e1 j h]
      exact q4.keep fun z o hz hzo => kb z o (hxc2.block hzo) (hG j z h hz).2.2.1 (hG j z h hz).2.2.2
    · obtain rfl : j = k := by omega
      rw [hn] at hy
      cases hy
      refine ⟨c0, c1, c2, c3, by rw [List.getElem?_append_right (by omega), hlen, Nat.sub_self]; rfl, by rw [List.getElem?_append_right (by omega), hlen, Nat.add_sub_cancel_left]; rfl, by rw [List.getElem?_append_right (by omega), hlen, Nat.add_sub_cancel_left]; rfl, by rw [List.getElem?_append_right (by omega), hlen, Nat.add_sub_cancel_left]; rfl, ?_⟩
      rw [e2]
      exact ho.keep fun z o hz hzo => kb z o (hxc.block hzo) (by have := hF z hz; omega) (nol z (hF z hz).1)
  · have h1 := hG2 j y hj hy
    refine ⟨h1.1, by omega, h1.2.2.1, fun e => ?_⟩
    rcases (vown y e).1 with h2 | h2
    · exact h1.2.2.2 h2.2.2
    · omega
  · by_cases h : i < k
    · rw [e1 i h] at hy
      by_cases h' : j < k
      · rw [e1 j h']; exact hd i j y h h' hij hy
      · obtain rfl : j = k := by omega
        rw [e2]; intro h2; have := hG i y h hy; have := hF y h2; omega
    · obtain rfl : i = k := by omega
      rw [e2] at hy
      by_cases h' : j < i
      · rw [e1 j h']; intro h2; have := hG j y h' h2; have := hF y hy; omega
      · omega
theorem EPAt.fin {g0 w1 wr w3 : World} {b : Nat} {tag : Int} {aa : Option Addr} {an ac : Nat} {text : ByteArray} {attrs : List AttrB} {kids : List PN} {kv : Value} {xs : List Value} {G : Nat → Nat → Prop} (ha : RowRd g0 2 (.slice aa an ac) attrs.length (attrCells attrs))
    (hr : RowP wr (fun x => w1.heap.size ≤ x ∧ x ≠ b) 26 4 kv kids.length xs) (hkb : ∀ y, kv.ownBlock = some y → w1.heap.size ≤ y ∧ y ≠ b ∧ y < wr.heap.size)
    (hk : ∀ (j : Nat) (x : PN), j < kids.length → kids[j]? = some x → ∃ c0 c1 c2 c3, xs[j * 4]? = some c0 ∧ xs[j * 4 + 1]? = some c1 ∧ xs[j * 4 + 2]? = some c2 ∧ xs[j * 4 + 3]? = some c3 ∧ OwnN g0 wr x (.agg #[c0, c1, c2, c3]) (G j))
    (hG : ∀ j x, j < kids.length → G j x → w1.heap.size ≤ x ∧ x < wr.heap.size ∧ x ≠ b ∧ kv.ownBlock ≠ some x) (hd : ∀ i j x, i < kids.length → j < kids.length → i ≠ j → G i x → ¬ G j x)
    (hkeep : ∀ y o, w1.heap.size ≤ y → wr.heap[y]? = some o → w3.heap[y]? = some o) :
    OwnN g0 w3 (.mk tag attrs text kids) (.agg #[.int .i64 tag, .slice aa an ac, .string text, kv]) (fun x => w1.heap.size ≤ x ∧ x < wr.heap.size) := by
  rcases hr.2 with ⟨h0, a, rfl⟩ | ⟨g, cap, cur, rfl, h2, h3, h4, h5, h6, h7⟩
  · exact .leaf (.mk tag attrs text kids) _ _ _ ha (List.eq_nil_of_length_eq_zero h0) ⟨a, rfl⟩
  · refine .node (.mk tag attrs text kids) _ g cap cur _ G ha (hkeep g _ h2.1 h3) h4 h5 h6 (fun j x hx => ?_) ⟨h2.1, (Array.getElem?_eq_some_iff.1 h3).1⟩ (fun j x hj hx => ?_) hd
    · have hx : kids[j]? = some x := hx
      obtain ⟨d0, d1, d2, d3, q0, q1, q2, q3, q4⟩ := hk j x (List.getElem?_eq_some_iff.1 hx).1 hx
      have hcur : ∀ i c, xs[i]? = some c → cur[i]? = some c := fun i c hi => by
        rw [← h7, List.getElem?_take] at hi
        split at hi
        · simpa using hi
        · cases hi
      have e : four cur j = .agg #[d0, d1, d2, d3] := by
        unfold four
        rw [hcur _ _ q0, hcur _ _ q1, hcur _ _ q2, hcur _ _ q3]; rfl
      rw [e]
      exact q4.keep fun y o hy ho => hkeep y o (hG j y (List.getElem?_eq_some_iff.1 hx).1 hy).1 ho
    · have := hG j x hj hx
      exact ⟨⟨this.1, this.2.1⟩, fun e => this.2.2.2 (by subst e; rfl)⟩
theorem build_node (w : World) (c0 c1 c2 c3 : Value) : (Instr.buildSlice 24 1 #[(0, .agg #[c0, c1, c2, c3])]).run Tryz.prog w = .ok (.slice (some ⟨w.heap.size, 0, none⟩) 1 1) (w.alloc (.cells #[c0, c1, c2, c3] 26)) := by
  obtain ⟨i0, hii, hz0, hz1, hz2⟩ := info_parts infoN
  refine run_buildSlice w 24 26 1 _ _ i0 noNode0 Tryz.underlying24 hii hz0 (by rw [hz1]; decide) (by rw [hz1]; decide) ?_
  rw [hz1]
  kernel_rfl
theorem step_build_node {ops : Array Oper} {o : Oper} {a : Act} {w : World} {K : Act → World → Prop} {Q : Exit → Act → World → Prop} {E : Prop} (hg : o.guard = none) (x : Operand) (hop : o.op = Op.buildSlice 24 1 #[(0, x)]) (c0 c1 c2 c3 : Value) (hx : a.eval x = .agg #[c0, c1, c2, c3])
    (hK : K (a.put o.dst (.slice (some ⟨w.heap.size, 0, none⟩) 1 1)) (w.alloc (.cells #[c0, c1, c2, c3] 26))) : if Region.wanted o (yielded ops a.tmps) = true then Oper.wp Tryz.prog o a w K Q else E := by
  have hw : Region.wanted o (yielded ops a.tmps) = true := by simp [Region.wanted, hg]
  rw [if_pos hw]
  have hm : (#[(0, x)] : Array (Nat × Operand)).map (fun (i, x) => (i, a.eval x)) = #[(0, .agg #[c0, c1, c2, c3])] := by simp [hx]
  unfold Oper.wp execOp
  simp only [hop, hm, Sem.run_bind, build_node, Result.andThen_ok]
  exact hK
theorem plain_any {g0 ga : World} (hga : ∀ (v : Value) (n : Nat) (xs : List Value), RowP g0 (fun _ => True) 104 2 v n xs → RowRd ga 2 v n xs) : ∀ n : PN, n.size ≤ 100000 → ∀ (w : World) (S : Nat → Prop) (q : Nat), El g0 w S q n → Calls Tryz.prog 26 #[.pointer (some ⟨q, 0, none⟩)] w (EPlainIs ga n w) := by
  have HGA := qh hga
  clear hga
  refine PN.induct _ fun n ih hsz w S q h => ?_
  obtain ⟨tag, attrs, text, kids⟩ := n
  have IH := qh ih
  have hnl : kids.length ≤ 100000 := by have := PN.sizes_len kids; have h2 := hsz; rw [PN.size_eq] at h2; have h3 : PN.sizes kids + 1 ≤ 100000 := h2; omega
  have HSZ := qh hsz
  obtain ⟨av, kv, ps, hb, hS, ha0, hr, hnil, hl, hk⟩ := h.open
  have ha := HGA.out _ _ _ ha0
  obtain ⟨aa, ac, rfl, _⟩ := ha.len_of
  obtain ⟨ka, kc, rfl, _⟩ := RowRd.len_of (RowP.rd hr)
  have HKD := qh hk
  have HA := qh ha
  have HR := qh hr
  have HL := qh hl
  have HW := qh hb
  have hql : q < w.heap.size := (Array.getElem?_eq_some_iff.1 hb).1
  have x1 := (Ext.refl w).alloc (.cells #[.int .i64 0, .slice none 0 0, .string ⟨#[]⟩, .slice none 0 0] 26)
  have hb0 := heap_alloc_new w (.cells #[.int .i64 0, .slice none 0 0, .string ⟨#[]⟩, .slice none 0 0] 26)
  have hs1 : (w.alloc (.cells #[.int .i64 0, .slice none 0 0, .string ⟨#[]⟩, .slice none 0 0] 26)).heap.size = w.heap.size + 1 := by simp
  clear ih hsz h hS ha ha0 hr hnil hk hb
  go_enter Tryz.func26, Tryz.ntmps26
  go_upto_region 1 with fail
  obtain ⟨w1, hw1⟩ : ∃ w1 : World, w1 = w.alloc (.cells #[.int .i64 0, .slice none 0 0, .string ⟨#[]⟩, .slice none 0 0] 26) := ⟨_, rfl⟩
  rw [← hw1] at x1 hb0 hs1 ⊢
  clear hw1
  have hb1 := x1.block HW.out
  have c0 := cellOf hb1 (i := 0) (v := .int .i64 tag) rfl
  have c1 := cellOf hb1 (i := 1) (v := .slice aa attrs.length ac) rfl
  have c2 := cellOf hb1 (i := 2) (v := .string text) rfl
  have c3 := cellOf hb1 (i := 3) (v := .slice none 0 0) rfl
  have hbn := heap_alloc_new w1 (.cells #[.int .i64 0, .slice none 0 0, .string ⟨#[]⟩, .slice none 0 0] 26)
  have n0 := cellOf hbn (i := 0) (v := .int .i64 0) rfl
  have n1 := cellOf hbn (i := 1) (v := .slice none 0 0) rfl
  have n2 := cellOf hbn (i := 2) (v := .string ⟨#[]⟩) rfl
  have n3 := cellOf hbn (i := 3) (v := .slice none 0 0) rfl
  have f0 := freeOf hbn 0
  have f1 := freeOf hbn 1
  have f2 := freeOf hbn 2
  have f3 := freeOf hbn 3
  have X1 := qh x1
  have HB0 := qh hb0
  have HS1 := qh hs1
  have HQL := qh hql
  clear hb1 hbn x1 hb0 hs1 hql
  go_upto_region 2 with fail
  clear c0 c1 c2 c3 n0 n1 n2 n3 f0 f1 f2 f3
  obtain ⟨b, hbb⟩ : ∃ b, w1.heap.size = b := ⟨_, rfl⟩
  have HBB := qh hbb
  have HAT0 : Hid (EPAt ga w1 (w1.alloc (.cells #[.int .i64 tag, .slice aa attrs.length ac, .string text, .slice none 0 0] 26)) b tag (.slice aa attrs.length ac) text kids 0) := qh (EPAt.init ((Ext.refl w1).alloc _) (hbb ▸ heap_alloc_new w1 _))
  have hq2 := ((Ext.refl w1).alloc (.cells #[.int .i64 tag, .slice aa attrs.length ac, .string text, .slice none 0 0] 26)).block (X1.out.block HW.out)
  rw [hbb]
  generalize w1.alloc (.cells #[.int .i64 tag, .slice aa attrs.length ac, .string text, .slice none 0 0] 26) = w2 at HAT0 hq2 ⊢
  have c4 := cellOf hq2 (i := 4) (v := .slice ka ps.length kc) rfl
  obtain ⟨N, hN⟩ : ∃ N, ps.length = N := ⟨_, rfl⟩
  have HN := qh hN
  rw [hN] at c4
  clear hq2 hbb hN
  go_wp2_with fail
  go_loopw [15] (fun i wr => ∃ k : Nat, k ≤ N ∧ i = .int .i64 k ∧ EPAt ga w1 wr b tag (.slice aa attrs.length ac) text kids k) (fun i _ => N - (intOf i).toNat)
  case atStart => exact ⟨0, Nat.zero_le _, rfl, HAT0.out⟩
  case round =>
    obtain ⟨k, hk, rfl, hxr, kv, xs, G, hb, hr, hkb, hkx, hG, hd⟩ := hrel
    clear HAT0
    by_cases hlt : k < N
    · obtain ⟨p, hp⟩ : ∃ p, ps[k]? = some p := ⟨ps[k]'(by have := HN.out; omega), by simp⟩
      obtain ⟨x, hxi⟩ : ∃ x, kids[k]? = some x := ⟨kids[k]'(by have := HN.out; have := HL.out; omega), by simp⟩
      obtain ⟨g, hka, hgc⟩ : ∃ g, ka = some ⟨g, 0, none⟩ ∧ w.cell? ⟨g, k, none⟩ = some (.pointer (some ⟨p, 0, none⟩)) := by
        rcases HR.out.2 with ⟨h0, _⟩ | ⟨g, cap, cur, h1, h2, h3, h4, h5, h6, h7⟩
        · have := HN.out; omega
        · refine ⟨g, by injection h1, cellOf h3 ?_⟩
          rw [Nat.mul_one] at h7
          have hj2 : (ps.map ptrV)[k]? = some (ptrV p) := by rw [List.getElem?_map, hp]; rfl
          rw [← h7, List.getElem?_take] at hj2
          split at hj2
          · simpa [ptrV] using hj2
          · cases hj2
      subst hka
      have hgr := (X1.out.trans hxr).cell hgc
      have hxs : x.size ≤ 100000 := by
        have h1 := HSZ.out
        have h2 := PN.size_kid (n := .mk tag attrs text kids) (k := x) (List.mem_of_getElem? hxi)
        omega
      have REC := qh (fun (z : World) (hz : Ext wr z) => IH.out x (List.mem_of_getElem? hxi) hxs z S p ((HKD.out k p x hp hxi).mv (K := fun _ => False) (Mv.ofExt ((X1.out.trans hxr).trans hz)) (fun _ _ h => h)))
      obtain ⟨ak, ck, rfl, hck⟩ := RowRd.len_of (RowP.rd hr)
      have cb := cellOf hb (i := 3) (v := .slice ak k ck) rfl
      have fb := freeOf hb 3
      have HXR := qh hxr
      have HB := qh hb
      have HRR := qh hr
      have HKB := qh hkb
      have HKX := qh hkx
      have HG := qh hG
      have HD := qh hd
      have HXX := qh hxi
      have hk60 : k ≤ 100000 := by have := HN.out; have := HL.out; omega
      have HK60 := qh hk60
      clear hxr hb hr hkb hkx hG hd hxi hp hgc hxs
      as_aux_lemma =>
        go_upto_region 5 with fail
        refine wp_region_E (S := fun w' => w'.cell? ⟨b, 3, none⟩ = some (.slice ak k ck)) (n := 7) (by kernel_rfl) ?_
        have hS : wr.drew.cell? ⟨b, 3, none⟩ = some (.slice ak k ck) := cb
        have hxd : Ext wr wr.drew := (Ext.refl wr).drew
        obtain ⟨wd, hwd⟩ : ∃ wd : World, wd = wr.drew := ⟨_, rfl⟩
        rw [← hwd] at hS hxd ⊢
        clear hwd
        show wpE _ _ _ _ _ 7 8 (Array.replicate 8 false) _ _
        refine wpE_tk 0 19 (.pointer (some ⟨b, 3, none⟩)) rfl (.inl ⟨by rfl, fun w' hSw => ?_⟩) hS ?_
        · (clear hS; go_simp)
        try simp only [Act.put, zA, zB, zC]
        refine wpE_tk 1 20 (.slice ak k ck) rfl (.inl ⟨by rfl, fun w' hSw => ?_⟩) hS ?_
        · (clear hS; go_simp)
        try simp only [Act.put, zA, zB, zC]
        refine wpE_tk 2 21 (.pointer (some ⟨p, 0, none⟩)) rfl (.inl ⟨by rfl, fun w' hSw => ?_⟩) hS ?_
        · (clear hS; go_simp)
        try simp only [Act.put, zA, zB, zC]
        refine wpE_on 3 (some 22) rfl (fun K hK => ?_)
        go_simp
        go_at_call 26
        refine (REC.out wd hxd).mono ?_
        rintro e wk ⟨v, F', rfl, ho, hxk, hF'⟩
        obtain ⟨aa2, acap2, ka2, kcap2, rfl⟩ := ho.shape
        obtain ⟨xt, hxt⟩ : ∃ t, x.tag = t := ⟨_, rfl⟩
        obtain ⟨xa, hxa⟩ : ∃ t, x.attrs.length = t := ⟨_, rfl⟩
        obtain ⟨xx, hxx⟩ : ∃ t, x.text = t := ⟨_, rfl⟩
        obtain ⟨xk, hxk2⟩ : ∃ t, x.kids.length = t := ⟨_, rfl⟩
        rw [hxt, hxa, hxx, hxk2] at ho
        rw [hxt, hxa, hxx, hxk2]
        clear hxt hxa hxx hxk2
        have hO := qh ho
        have hF2 := qh hF'
        have hcb := hxk.cells _ _ (hxd.cells _ _ cb)
        refine hK.out _ _ (.inr hcb) ?_
        clear ho hF'
        clear hK K
        try simp only [Act.put, zA, zB, zC]
        refine wpE_on 4 (some 23) rfl (fun K hK => ?_)
        refine step_build_node (by rfl) _ (by rfl) (.int .i64 xt) (.slice aa2 xa acap2) (.string xx) (.slice ka2 xk kcap2) (by rfl) ?_
        have hcc := ((Ext.refl wk).alloc (.cells #[.int .i64 xt, .slice aa2 xa acap2, .string xx, .slice ka2 xk kcap2] 26)).cells _ _ hcb
        have xc := (Ext.refl wk).alloc (.cells #[.int .i64 xt, .slice aa2 xa acap2, .string xx, .slice ka2 xk kcap2] 26)
        have hnew := cells_four (heap_alloc_new wk (.cells #[.int .i64 xt, .slice aa2 xa acap2, .string xx, .slice ka2 xk kcap2] 26))
        obtain ⟨cw, hcw⟩ : ∃ cw : World, cw = wk.alloc (.cells #[.int .i64 xt, .slice aa2 xa acap2, .string xx, .slice ka2 xk kcap2] 26) := ⟨_, rfl⟩
        rw [← hcw] at hcc xc hnew ⊢
        clear hcw
        refine hK.out _ _ (.inr hcc) ?_
        obtain ⟨i0, hii, hz0, hz1, hz2⟩ := info_parts infoN
        obtain ⟨v', wA, row, hrunA, hrA, hgA, hrowA⟩ := run_append_row (P := Tryz.prog) cw 24 24 26 i0 noNode0 4 72 Tryz.underlying24 hii hz0 hz1 hz2 (by kernel_rfl) (by decide)
          (p := fun y => w1.heap.size ≤ y ∧ y ≠ b ∧ (Value.slice ak k ck).ownBlock = some y) (RowP.imp (RowP.ext HRR.out ((hxd.trans hxk).trans xc)) (fun y hy hp => ⟨hp.1, hp.2, hy⟩)) ⟨wk.heap.size, 0, none⟩ 1 1 _ rfl hnew (by simp [Value.oneCell']) (by decide) (by have := HK60.out; unfold maxLen; omega) (by have := HK60.out; omega)
        have FIN := qh (EPAt.step HXR.out HB.out (by rw [HBB.out]; exact Nat.le_refl _) HRR.out HKB.out HKX.out HG.out HD.out HXX.out (hxd.trans hxk) hO.out (fun y hy => by have := hF2.out y hy; have := hxd.size; omega) xc hrA hgA hrowA)
        obtain ⟨a7, cap7, e7, _⟩ := hrA.rd.len_of
        subst e7
        have hcA : wA.cell? ⟨b, 3, none⟩ = some (.slice ak k ck) := (World.cell?_of_block (a := ⟨b, 3, none⟩) (hgA.block b (cell_lt hcc) (fun e => (hrowA b e.symm).2.1 rfl))).trans hcc
        have hfA : wA.frozen? ⟨b, 3, none⟩ = false := (World.frozen?_of_block (a := ⟨b, 3, none⟩) (hgA.block b (cell_lt hcc) (fun e => (hrowA b e.symm).2.1 rfl))).trans (Ext.free (((hxd.trans hxk).trans xc)) (cell_lt cb) fb)
        have HRA := qh hrunA
        clear hrA hgA hrowA hrunA hii hz0 hz1 hz2 hnew
        clear hK K
        try simp only [Act.put, zA, zB, zC]
        refine wpE_on 5 (some 24) rfl (fun K hK => ?_)
        refine step_append_run (by rfl) _ _ 24 (by rfl) (.slice ak k ck) (.slice (some ⟨wk.heap.size, 0, none⟩) 1 1) (by rfl) (by rfl) (.slice a7 (k + 1) cap7) wA HRA.out ?_
        refine hK.out _ _ (.inr hcA) ?_
        clear hK K
        try simp only [Act.put, zA, zB, zC]
        refine wpE_on 6 (some 25) rfl (fun K hK => ?_)
        go_simp
        refine hK.out _ _ (.inr hcA) ?_
        clear hK K
        try simp only [Act.put, zA, zB, zC]
        refine wpE_on 7 (none) rfl (fun K hK => ?_)
        go_simp
        refine hK.out _ _ (.inl rfl) ?_
        clear hK K
        refine wpE_done (by kernel_rfl) ?_
        clear hcA hfA hcc hcb hS cb fb
        obtain ⟨wz, hwz⟩ : ∃ wz : World, wz = wA.setCell ⟨b, 3, none⟩ (.slice a7 (k + 1) cap7) := ⟨_, rfl⟩
        rw [← hwz] at FIN ⊢
        clear hwz
        go_wp2_with fail
        go_roundw
        case rel => exact ⟨k + 1, by omega, by first | rfl | go_num, FIN.out⟩
        case measure => simp [intOf]; omega
    · have hkN : k = N := by omega
      obtain ⟨ak, ck, rfl, hck⟩ := RowRd.len_of (RowP.rd hr)
      have b0 := cellOf hb (i := 0) (v := .int .i64 tag) rfl
      have b1 := cellOf hb (i := 1) (v := .slice aa attrs.length ac) rfl
      have b2 := cellOf hb (i := 2) (v := .string text) rfl
      have b3 := cellOf hb (i := 3) (v := .slice ak k ck) rfl
      have hr0 := hxr.block HB0.out
      have r0 := cellOf hr0 (i := 0) (v := .int .i64 0) rfl
      have r1 := cellOf hr0 (i := 1) (v := .slice none 0 0) rfl
      have r2 := cellOf hr0 (i := 2) (v := .string ⟨#[]⟩) rfl
      have r3 := cellOf hr0 (i := 3) (v := .slice none 0 0) rfl
      have f0 := freeOf hr0 0
      have f1 := freeOf hr0 1
      have f2 := freeOf hr0 2
      have f3 := freeOf hr0 3
      have hbn : b ≠ w.heap.size := by have := HBB.out; have := HS1.out; omega
      have hbn' := Ne.symm hbn
      have hkk : N = kids.length := by have := HN.out; have := HL.out; omega
      subst hkk
      subst hkN
      have FIN := qh (fun (w3 : World) (hkeep : ∀ y o, w1.heap.size ≤ y → wr.heap[y]? = some o → w3.heap[y]? = some o) => EPAt.fin (tag := tag) (text := text) HA.out hr hkb hkx hG hd hkeep)
      have HXR := qh hxr
      clear hxr hb hr hkb hkx hG hd hr0
      go_wp2_with fail
      refine bodyPost_ret (v := .agg #[.int .i64 tag, .slice aa attrs.length ac, .string text, .slice ak kids.length ck]) (by simp [results, Tryz.results26, go_sem, r0, r1, r2, r3]) rfl ?_
      have hne : ∀ y, w1.heap.size ≤ y → y ≠ w.heap.size := fun y hy e => by have := HS1.out; omega
      have hX : ∀ u0 u1 u2 u3 : Value, Ext w ((((wr.setCell ⟨w.heap.size, 0, none⟩ u0).setCell ⟨w.heap.size, 1, none⟩ u1).setCell ⟨w.heap.size, 2, none⟩ u2).setCell ⟨w.heap.size, 3, none⟩ u3) := fun u0 u1 u2 u3 =>
        ((((X1.out.trans HXR.out).setCell (p := ⟨w.heap.size, 0, none⟩) (Nat.le_refl _) u0).setCell (p := ⟨w.heap.size, 1, none⟩) (Nat.le_refl _) u1).setCell (p := ⟨w.heap.size, 2, none⟩) (Nat.le_refl _) u2).setCell (p := ⟨w.heap.size, 3, none⟩) (Nat.le_refl _) u3
      refine ⟨_, _, rfl, FIN.out _ fun y o hy ho => ?_, hX _ _ _ _, fun x hx => ⟨by have := HS1.out; have := hx.1; omega, by have := hx.2; simpa [World.setCell] using this⟩⟩
      rw [heap_setCell_other (p := ⟨w.heap.size, 3, none⟩) _ (hne y hy), heap_setCell_other (p := ⟨w.heap.size, 2, none⟩) _ (hne y hy), heap_setCell_other (p := ⟨w.heap.size, 1, none⟩) _ (hne y hy), heap_setCell_other (p := ⟨w.heap.size, 0, none⟩) _ (hne y hy)]
      exact ho
end Go.Proofs.YtalaajbajgdglaaGreatDoor
namespace Go.Proofs.YtalaajbajgdglaaGreatDoor
open Go
theorem mem_tw {p : UInt8 → Bool} {x : UInt8} : ∀ {l : List UInt8}, x ∈ l.takeWhile p → p x = true
  | [], h => by cases h
  | c :: r, h => by
    by_cases hc : p c = true
    · rw [List.takeWhile_cons_of_pos hc] at h
      rcases List.mem_cons.1 h with rfl | h
      · exact hc
      · exact mem_tw h
    · rw [List.takeWhile_cons_of_neg hc] at h
      cases h
def nameP (n : List UInt8) (N : Nat) : Prop := n.length ≤ N ∧ ∀ c ∈ n, c.toNat < 128 ∧ (c.toNat < 65 ∨ 90 < c.toNat)
theorem small_alnumB (c : UInt8) : alnumB c = true → (smallC c).toNat < 128 ∧ ((smallC c).toNat < 65 ∨ 90 < (smallC c).toNat) := by
  have h := all_bytes (p := fun c => alnumB c = true → ((smallC c).toNat < 128 ∧ ((smallC c).toNat < 65 ∨ 90 < (smallC c).toNat))) (by decide +kernel) c
  exact h
theorem tagN_plain (r : List UInt8) : nameP (tagN r) r.length := by
  refine ⟨?_, fun c hc => ?_⟩
  · unfold tagN
    rw [List.length_map]
    have h1 := congrArg List.length (take_drop_while alnumB (tagR r))
    rw [List.length_append] at h1
    have h2 := (tagR_suf r).length_le
    rw [List.length_drop] at h2
    omega
  · unfold tagN at hc
    obtain ⟨d, hd, rfl⟩ := List.mem_map.1 hc
    exact small_alnumB d (mem_tw hd)
theorem tagL_name {N : Nat} {r e : List UInt8} {t : Tk} (h : tagL N r = some (t, e)) : nameP t.name r.length := by
  unfold tagL at h
  by_cases hl0 : headP letterB (tagR r) = true
  · rw [if_pos hl0] at h
    by_cases hcl : closeB r = true
    · rw [if_pos hcl] at h
      unfold closeL at h
      split at h
      · cases h
      · cases h; exact tagN_plain r
    · rw [if_neg hcl] at h
      unfold openL at h
      cases hx : partsL ((tagR r).dropWhile alnumB) with
      | none => rw [hx] at h; cases h
      | some x => rw [hx] at h; cases h; exact tagN_plain r
  · rw [if_neg hl0] at h
    cases h
theorem lexL_name (N M : Nat) : ∀ (n : Nat) (r raw : List UInt8) (a b : Nat), r.length ≤ n → r.length ≤ M → ∀ t ∈ lexL N raw a b r, nameP t.name M := by
  have hfl : ∀ raw a b, ∀ t ∈ flushT raw a b, nameP t.name M := by
    intro raw a b t ht
    unfold flushT at ht
    split at ht
    · cases ht
    · rw [List.mem_singleton.1 ht]; exact ⟨Nat.zero_le _, fun c hc => by cases hc⟩
  intro n
  induction n with
  | zero =>
    intro r raw a b hn _
    obtain rfl : r = [] := List.eq_nil_of_length_eq_zero (by omega)
    rw [lexL_nil]
    exact hfl raw a b
  | succ n ih =>
    intro r raw a b hn hM
    cases r with
    | nil => rw [lexL_nil]; exact hfl raw a b
    | cons c q =>
      simp only [List.length_cons] at hn hM
      have hch : (c ≠ 60 ∨ noteL (c :: q) = none ∧ tagL N (c :: q) = none) → ∀ t ∈ lexL N raw a b (c :: q), nameP t.name M := by
        intro h
        rw [lexL_char h]
        exact ih q (raw ++ [c]) _ _ (by omega) (by omega)
      by_cases hc : c = 60
      · subst hc
        cases hno : noteL (60 :: q) with
        | some e =>
          rw [lexL_note hno]
          have h2 := (noteL_suf hno).2
          simp only [List.length_cons] at h2
          exact ih e raw a b (by omega) (by omega)
        | none =>
          cases ht : tagL N (60 :: q) with
          | none => exact hch (.inr ⟨hno, ht⟩)
          | some x =>
            obtain ⟨t, e⟩ := x
            rw [lexL_tag hno ht]
            have h2 := (tagL_len ht).2
            simp only [List.length_cons] at h2
            intro u hu
            rcases List.mem_append.1 hu with hu | hu
            · exact hfl raw a b u hu
            · rcases List.mem_cons.1 hu with rfl | hu
              · have h3 := tagL_name ht
                exact ⟨Nat.le_trans h3.1 (by simp only [List.length_cons]; omega), h3.2⟩
              · exact ih e [] a b (by omega) (by omega) u hu
      · exact hch (.inl hc)
theorem decT_len (l : List UInt8) : (decT l).length ≤ 16 * l.length := by
  unfold decT
  have h1 := decL_len (anewB (bs l)).data.toList
  have h2 := anewB_size (bs l)
  have h3 : (anewB (bs l)).data.toList.length = (anewB (bs l)).size := rfl
  have h4 : (bs l).size = l.length := by show l.toArray.size = _; rw [List.size_toArray]
  omega
theorem tokens_small {L : List UInt8} (h : L.length ≤ 8192) : (tokens L).length ≤ 8192 ∧ ∀ t ∈ tokens L, t.text.length ≤ 131072 ∧ nameP t.name 8192 := by
  obtain ⟨h1, h2⟩ := lexL_small L.length L.length L [] 0 0 (Nat.le_refl _)
  have h3 := lexL_name L.length 8192 L.length L [] 0 0 (Nat.le_refl _) h
  unfold tokens
  refine ⟨by rw [List.length_map]; simpa using Nat.le_trans h2 (by simpa using h), fun t ht => ?_⟩
  obtain ⟨u, hu, rfl⟩ := List.mem_map.1 ht
  have h4 := h1 u hu
  simp only [List.length_nil, Nat.zero_add] at h4
  unfold Tk.fin
  split
  · have := decT_len u.text
    exact ⟨by show (decT u.text).length ≤ _; omega, h3 u hu⟩
  · exact ⟨by omega, h3 u hu⟩
end Go.Proofs.YtalaajbajgdglaaGreatDoor
namespace Go.Proofs.YtalaajbajgdglaaGreatDoor
open Go Go.RowKit Go.BigFrame We
structure TkAtN (B : Nat) (w : World) (g i : Nat) (t : Tk) : Prop where
  kind : w.cell? ⟨g, i * 7, none⟩ = some (.int .i64 t.kind)
  name : w.cell? ⟨g, i * 7 + 1, none⟩ = some (.string (bs t.name))
  text : w.cell? ⟨g, i * 7 + 2, none⟩ = some (.string (bs t.text))
  attrs : ∃ a c, w.cell? ⟨g, i * 7 + 3, none⟩ = some (.slice a t.attrs.length c) ∧ RowP w (fun _ => True) 104 2 (.slice a t.attrs.length c) t.attrs.length (attrCells t.attrs)
  self : ∃ sf : Int, w.cell? ⟨g, i * 7 + 4, none⟩ = some (.int .i64 sf)
  lo : ∃ lo : Int, w.cell? ⟨g, i * 7 + 5, none⟩ = some (.int .i64 lo)
  hi : ∃ hi : Int, w.cell? ⟨g, i * 7 + 6, none⟩ = some (.int .i64 hi)
theorem TkNew.at {B : Nat} {w : World} {v : Value} {l : List Tk} (h : TkNew B w v l) : ∃ a cap, v = .slice a l.length cap ∧ (0 < l.length → ∃ g, a = some ⟨g, 0, none⟩ ∧ ∀ i t, l[i]? = some t → TkAtN B w g i t) := by
  obtain ⟨L, h1, h2, h3⟩ := h
  have hl : L.length = l.length := by rw [← h1, List.length_map]
  rcases h2.2 with ⟨h0, a, e⟩ | ⟨g, cap, cur, e, _, h5, h6, _, _, h9⟩
  · exact ⟨a, 0, by rw [e, ← hl, h0], fun hp => absurd hp (by omega)⟩
  · refine ⟨some ⟨g, 0, none⟩, cap, by rw [e, hl], fun _ => ⟨g, rfl, fun i t ht => ?_⟩⟩
    rw [← h1, List.getElem?_map] at ht
    cases hp : L[i]? with
    | none => rw [hp] at ht; cases ht
    | some p =>
      rw [hp] at ht
      have : p.1 = t := by simpa using ht
      subst this
      have c0 := row_cell (f := 0) h5 h9 hp (v := .int .i64 p.1.kind) rfl
      rw [Nat.add_zero] at c0
      have hr := h3 p (List.mem_of_getElem? hp)
      obtain ⟨aa, ac, ea, _⟩ := RowRd.len_of hr.rd
      exact ⟨c0, row_cell (f := 1) h5 h9 hp (v := .string (bs p.1.name)) rfl, row_cell (f := 2) h5 h9 hp (v := .string (bs p.1.text)) rfl, ⟨aa, ac, (by rw [← ea]; exact row_cell (f := 3) h5 h9 hp (v := p.2) rfl), ea ▸ RowP.imp hr (fun _ _ _ => trivial)⟩,
        ⟨_, row_cell (f := 4) h5 h9 hp (v := .int .i64 (selfZ p.1.self)) rfl⟩, ⟨_, row_cell (f := 5) h5 h9 hp (v := .int .i64 (p.1.lo : Int)) rfl⟩, ⟨_, row_cell (f := 6) h5 h9 hp (v := .int .i64 (p.1.hi : Int)) rfl⟩⟩
def zeroNV : Value := .agg #[.int .i64 0, .slice none 0 0, .string ⟨#[]⟩, .slice none 0 0]
def HostIs (t : ByteArray) (w : World) (e : Ending) (w' : World) : Prop :=
  (8192 < t.size ∧ e = .returned (.tuple #[zeroNV, .int .i64 10]) ∧ Ext w w') ∨ (t.size ≤ 8192 ∧ ∃ v, e = .returned (.tuple #[v, .int .i64 0]) ∧ Ext w w' ∧ RdN w' (hostZ (tokens t.data.toList)) v)
theorem runZ_snoc (l : List Tk) (t : Tk) : runZ (l ++ [t]) = tokenZ t (runZ l) := by unfold runZ; rw [List.foldl_append]; rfl
theorem runZ_ok {L : List Tk} {M : Nat} (h : ∀ t ∈ L, t.text.length ≤ M) : ∀ k, (runZ (L.take k)).Ok (k * M)
  | 0 => by rw [Nat.zero_mul, List.take_zero]; exact startZ_ok
  | k + 1 => by
    have ih := runZ_ok h k
    by_cases hk : k < L.length
    · have e : L.take (k + 1) = L.take k ++ [L[k]] := by rw [List.take_add_one, List.getElem?_eq_getElem hk]; rfl
      rw [e, runZ_snoc]
      refine (ih.token _).mono ?_
      have := h L[k] (List.getElem_mem hk)
      rw [Nat.add_mul]
      omega
    · rw [List.take_of_length_le (by omega)]
      rw [List.take_of_length_le (by omega)] at ih
      exact ih.mono (Nat.mul_le_mul_right _ (Nat.le_succ _))
theorem BX.start {g0 w : World} {q rb bb : Nat} (hq : w.heap[q]? = some (.cells (elC 1 (.slice none 0 0) ⟨#[]⟩ (.slice none 0 0)) 51 (0, 0))) (hr : w.heap[rb]? = some (.cells #[ptrV q] 48 (0, 0)))
    (hb : w.heap[bb]? = some (.cells #[.slice (some ⟨rb, 0, none⟩) 1 1, .int .i64 1] 53 (0, 0))) (h1 : g0.heap.size ≤ q) (h2 : g0.heap.size ≤ rb) (h3 : g0.heap.size ≤ bb) (x : Ext g0 w) (n1 : rb ≠ q) (n2 : rb ≠ bb) (n3 : bb ≠ q) :
    BX g0 w (fun g => g0.heap.size ≤ g ∧ g < w.heap.size) bb (fun g => if g = q then some (0, 0) else none) [⟨q, ⟨1, [], []⟩, .slice none 0 0, .slice none 0 0, []⟩] (.slice (some ⟨rb, 0, none⟩) 1 1) (some rb) startZ := by
  have hlt : ∀ {b o}, w.heap[b]? = some o → b < w.heap.size := fun h => (Array.getElem?_eq_some_iff.1 h).1
  have hone : ∀ {j : Nat} {m : FrM}, ([⟨q, ⟨1, [], []⟩, .slice none 0 0, .slice none 0 0, []⟩] : List FrM)[j]? = some m → j = 0 ∧ m = ⟨q, ⟨1, [], []⟩, .slice none 0 0, .slice none 0 0, []⟩ := fun {j m} hj => by
    cases j with
    | zero => exact ⟨rfl, (Option.some.inj hj).symm⟩
    | succ j => simp at hj
  refine ⟨⟨fun j m hj => ?_, fun j m hj => ?_, fun j m i p n hj hp => ?_, fun j m hj => ?_, fun j m hj => ?_, fun g hg => ?_⟩, hb, if_neg n3, ⟨rfl, .inr ⟨rb, 1, _, rfl, rfl, hr, Nat.le_refl _, by unfold maxLen; omega, rfl, rfl⟩⟩, fun g hg => ?_, rfl, by simp, fun g hg => ?_, ⟨h3, hlt hb⟩, h3, x⟩
  · obtain ⟨rfl, rfl⟩ := hone hj; exact ⟨if_pos rfl, hq⟩
  · obtain ⟨rfl, rfl⟩ := hone hj; rw [ptrs_last (by rfl)]; exact ⟨⟨rfl, .inl ⟨rfl, none, rfl⟩⟩, fun _ => rfl⟩
  · obtain ⟨rfl, rfl⟩ := hone hj; simp at hp
  · obtain ⟨rfl, rfl⟩ := hone hj; rfl
  · obtain ⟨rfl, rfl⟩ := hone hj; exact ⟨rfl, .inl ⟨rfl, none, rfl⟩⟩
  · by_cases e : g = q
    · subst e; exact ⟨h1, hlt hq⟩
    · exact absurd (if_neg e) hg
  · cases hg; exact ⟨if_neg n1, n2, h2, hlt hr, h2, hlt hr⟩
  · by_cases e : g = q
    · subst e; exact ⟨h1, hlt hq⟩
    · exact absurd (if_neg e) hg
theorem BX.whole {g0 w : World} {F : Nat → Prop} {bb : Nat} {own : Ow} {l : List FrM} {ov : Value} {ob : Option Nat} {b : BZ} {N : Nat} (h : BX g0 w F bb own l ov ob b) (ok : b.Ok N) : ∃ (m : FrM) (S : Nat → Prop), l[0]? = some m ∧ El g0 w S m.q (topN b.z) ∧ (topN b.z).size ≤ 2000 := by
  have hpos : 0 < l.length := List.length_pos_iff.2 h.ne
  obtain ⟨own', l', h1, h2, h3, h4⟩ := BAt.popN (l.length - 1) own l h.at_ (by omega)
  have hl : l'.length = 1 := by
    have := congrArg List.length h4
    simp only [List.length_map, List.length_take] at this
    omega
  obtain ⟨m', rfl⟩ : ∃ m', l' = [m'] := by
    match l', hl with
    | [m'], _ => exact ⟨m', rfl⟩
  have hm : l[0]? = some l[0] := List.getElem?_eq_getElem hpos
  have hq : m'.q = (l[0]).q := by
    rw [show l.length - (l.length - 1) = 1 by omega] at h4
    have h5 := congrArg (fun x : List Nat => x[0]?) h4
    simp only [List.map_cons, List.map_nil, List.getElem?_cons_zero, List.getElem?_take] at h5
    rw [if_pos (by omega), List.getElem?_map, hm] at h5
    simpa using h5
  have htop : topN b.z = m'.f.node := by
    have hz : popAll b.z = [m'.f] := by
      unfold popAll
      rw [h.z, zOf_len, ← h3]
      rfl
    unfold topN
    rw [hz]
  have hsz := (BZ.Ok.popN (l.length - 1) ok (by rw [h.len]; omega)).sum
  have hc := ok.cnt
  have hz2 : Go.Proofs.YtalaajbajgdglaaGreatDoor.popN (l.length - 1) b.z = [m'.f] := by rw [h.z, ← h3]; rfl
  refine ⟨l[0], fun g => own' g ≠ none, hm, ?_, ?_⟩
  · rw [htop, ← hq]
    have hb := h1.blk 0 m' rfl
    have hr := h1.row 0 m' rfl
    rw [ptrs_last (by rfl)] at hr
    refine .mk m'.ps hb.2 (by rw [hb.1]; simp) (h1.att 0 m' rfl) (hr.1.imp fun g _ hg => by rw [hg]; simp) (fun e => hr.2 ?_) (h1.len 0 m' rfl) fun i q k hi hk => (h1.kid 0 m' i q k rfl hi hk).imp fun g hg => by rw [hg]; simp
    have := h1.len 0 m' rfl
    rw [e] at this
    exact List.eq_nil_of_length_eq_zero this
  · rw [htop, PN.size_eq]
    dsimp only at hsz
    rw [hz2] at hsz
    simp only [List.map_cons, List.map_nil, List.sum_cons, List.sum_nil] at hsz
    show PN.sizes m'.f.kids + 1 ≤ 2000
    omega
def HRel (w1 : World) (bb : Nat) (L : List Tk) (k : Nat) (wr : World) : Prop := ∃ (F : Nat → Prop) (own : Ow) (l : List FrM) (ov : Value) (ob : Option Nat), BX w1 wr F bb own l ov ob (runZ (L.take k)) ∧ ∀ g, F g → g < wr.heap.size
theorem Host_any (s : ByteArray) (hs : s.size ≤ 10000000000) (w : World) (hl : LW w) : Calls Tryz.prog 10 #[.string s] w (HostIs (anewB s) w) := by
  have HALL := qh (fun (W : World) (x : Ext w W) => All_new s hs W (hl.ext x))
  obtain ⟨t, ht⟩ : ∃ t, anewB s = t := ⟨_, rfl⟩
  rw [ht] at HALL ⊢
  have hb0 := heap_alloc_new w (.cells #[.int .i64 0, .slice none 0 0, .string ⟨#[]⟩, .slice none 0 0] 26)
  have x0 := (Ext.refl w).alloc (.cells #[.int .i64 0, .slice none 0 0, .string ⟨#[]⟩, .slice none 0 0] 26)
  clear hs hl ht
  go_enter Tryz.func10, Tryz.ntmps10
  go_upto_region 1 with fail
  obtain ⟨w0, hw0⟩ : ∃ w' : World, w' = w.alloc (.cells #[.int .i64 0, .slice none 0 0, .string ⟨#[]⟩, .slice none 0 0] 26) := ⟨_, rfl⟩
  rw [← hw0] at x0 hb0 ⊢
  clear hw0
  obtain ⟨rb, hrb⟩ : ∃ rb, w.heap.size = rb := ⟨_, rfl⟩
  have HRB := qh hrb
  rw [hrb] at hb0 ⊢
  have X0 := qh x0
  have HB0 := qh hb0
  clear x0 hb0 hrb
  go_wp2_with (go_at_call 24; refine (HALL.out _ X0.out).mono ?_)
  rintro e w1 (⟨h8, rfl, x1⟩ | ⟨h8, v, rfl, x1, htk⟩)
  · have hb1 := x1.block HB0.out
    have r0 := cellOf hb1 (i := 0) (v := .int .i64 0) rfl
    have r1 := cellOf hb1 (i := 1) (v := .slice none 0 0) rfl
    have r2 := cellOf hb1 (i := 2) (v := .string ⟨#[]⟩) rfl
    have r3 := cellOf hb1 (i := 3) (v := .slice none 0 0) rfl
    have f0 := freeOf hb1 0
    have f1 := freeOf hb1 1
    have f2 := freeOf hb1 2
    have f3 := freeOf hb1 3
    have hX : Hid (∀ u0 u1 u2 u3 : Value, Ext w ((((w1.setCell ⟨rb, 0, none⟩ u0).setCell ⟨rb, 1, none⟩ u1).setCell ⟨rb, 2, none⟩ u2).setCell ⟨rb, 3, none⟩ u3)) := qh fun u0 u1 u2 u3 =>
      ((((X0.out.trans x1).setCell (p := ⟨rb, 0, none⟩) (by rw [HRB.out]; exact Nat.le_refl _) u0).setCell (p := ⟨rb, 1, none⟩) (by rw [HRB.out]; exact Nat.le_refl _) u1).setCell (p := ⟨rb, 2, none⟩) (by rw [HRB.out]; exact Nat.le_refl _) u2).setCell (p := ⟨rb, 3, none⟩) (by rw [HRB.out]; exact Nat.le_refl _) u3
    have H8 := qh h8
    clear hb1 x1 h8
    go_wp2_with fail
    exact bodyPost_ret (v := .tuple #[.agg #[.int .i64 0, .slice none 0 0, .string ⟨#[]⟩, .slice none 0 0], .int .i64 10]) (by simp [results, Tryz.results10, go_sem, r0, r1, r2, r3]) rfl (.inl ⟨H8.out, rfl, hX.out _ _ _ _⟩)
  · obtain ⟨L, hL⟩ : ∃ L, tokens t.data.toList = L := ⟨_, rfl⟩
    have hsm := tokens_small (L := t.data.toList) (by have : t.data.toList.length = t.size := rfl; omega)
    rw [hL] at htk hsm
    obtain ⟨a, cap, rfl, hat⟩ := htk.at
    obtain ⟨N, hN⟩ : ∃ N, L.length = N := ⟨_, rfl⟩
    rw [hN] at hat hsm ⊢
    have HNN := qh (And.intro hN hL)
    have HSM := qh hsm
    have HAT := qh hat
    have H8 := qh h8
    have X1 := qh x1
    have HB1 := qh (x1.block HB0.out)
    have hN82 : N ≤ 8192 := hsm.1
    -- the builder at the start
    have HST : Hid (HRel w1 (w1.heap.size + 1 + 1) L 0 (((w1.alloc (.cells #[.int .i64 1, .slice none 0 0, .string ⟨#[]⟩, .slice none 0 0, .slice none 0 0] 51)).alloc (.cells #[.pointer (some ⟨w1.heap.size, 0, none⟩)] 48)).alloc (.cells #[.slice (some ⟨w1.heap.size + 1, 0, none⟩) 1 1, .int .i64 1] 53))) := qh (by
      have k1 := heap_alloc_new w1 (.cells #[.int .i64 1, .slice none 0 0, .string ⟨#[]⟩, .slice none 0 0, .slice none 0 0] 51)
      have k2 := heap_alloc_new (w1.alloc (.cells #[.int .i64 1, .slice none 0 0, .string ⟨#[]⟩, .slice none 0 0, .slice none 0 0] 51)) (.cells #[.pointer (some ⟨w1.heap.size, 0, none⟩)] 48)
      have k3 := heap_alloc_new ((w1.alloc (.cells #[.int .i64 1, .slice none 0 0, .string ⟨#[]⟩, .slice none 0 0, .slice none 0 0] 51)).alloc (.cells #[.pointer (some ⟨w1.heap.size, 0, none⟩)] 48)) (.cells #[.slice (some ⟨w1.heap.size + 1, 0, none⟩) 1 1, .int .i64 1] 53)
      simp only [World.size_alloc] at k2 k3
      have xx := (((Ext.refl w1).alloc (.cells #[.int .i64 1, .slice none 0 0, .string ⟨#[]⟩, .slice none 0 0, .slice none 0 0] 51)).alloc (.cells #[.pointer (some ⟨w1.heap.size, 0, none⟩)] 48)).alloc (.cells #[.slice (some ⟨w1.heap.size + 1, 0, none⟩) 1 1, .int .i64 1] 53)
      refine ⟨_, _, _, _, _, BX.start (q := w1.heap.size) (rb := w1.heap.size + 1) (bb := w1.heap.size + 1 + 1) ((((Ext.refl _).alloc _).alloc _).block k1) (((Ext.refl _).alloc _).block k2) k3 (Nat.le_refl _) (by omega) (by omega) xx (by omega) (by omega) (by omega), fun g hg => hg.2⟩)
    clear hsm hat h8 x1 htk hL hN
    go_upto_region 5 with fail
    obtain ⟨bb, hbb⟩ : ∃ bb, w1.heap.size + 1 + 1 = bb := ⟨_, rfl⟩
    rw [hbb] at HST ⊢
    generalize ((w1.alloc (.cells #[.int .i64 1, .slice none 0 0, .string ⟨#[]⟩, .slice none 0 0, .slice none 0 0] 51)).alloc (.cells #[.pointer (some ⟨w1.heap.size, 0, none⟩)] 48)).alloc (.cells #[.slice (some ⟨w1.heap.size + 1, 0, none⟩) 1 1, .int .i64 1] 53) = w2 at HST ⊢
    clear hbb
    go_wp2_with fail
    go_loopg [26] N (fun gk s26 wr => ∃ k : Nat, s26 = .int .i64 (k : Int) ∧ k + gk = N ∧ HRel w1 bb L k wr)
    case atStart => exact ⟨0, rfl, by omega, HST.out⟩
    case round =>
      obtain ⟨k, rfl, hk, hrel⟩ := hrel
      clear HST
      have HREL := qh hrel
      clear hrel
      by_cases hlt : k < N
      · obtain ⟨g', rfl⟩ : ∃ g', gk = g' + 1 := ⟨gk - 1, by omega⟩
        have hltz : decide ((k : Int) < (N : Int)) = true := decide_eq_true (by omega)
        have hltn : decide (k < N) = true := decide_eq_true hlt
        obtain ⟨tk, htk⟩ : ∃ tk, L[k]? = some tk := ⟨L[k]'(by have := HNN.out.1; omega), by simp⟩
        obtain ⟨g, rfl, hgt⟩ := HAT.out (by omega)
        have hT := hgt k tk htk
        obtain ⟨F, own, l, ov, ob, hBX, hF⟩ := HREL.out
        have hx : Ext w1 wr := hBX.old
        obtain ⟨aa, ac, q3, hatt⟩ := hT.attrs
        obtain ⟨sf, q4⟩ := hT.self
        obtain ⟨lo, q5⟩ := hT.lo
        obtain ⟨hi, q6⟩ := hT.hi
        have q0 := hx.cell hT.kind
        have q1 := hx.cell hT.name
        have q2 := hx.cell hT.text
        replace q3 := hx.cell q3
        replace q4 := hx.cell q4
        replace q5 := hx.cell q5
        replace q6 := hx.cell q6
        obtain ⟨hbk, hnm⟩ := HSM.out.2 tk (List.mem_of_getElem? htk)
        have hok := runZ_ok (L := L) (M := 131072) (fun t ht => (HSM.out.2 t ht).1) k
        have HTOK : Hid (∀ W, Ext wr W → Calls Tryz.prog 25 #[.pointer (some ⟨bb, 0, none⟩), .agg #[.int .i64 tk.kind, .string (bs tk.name), .string (bs tk.text), .slice aa tk.attrs.length ac, .int .i64 sf, .int .i64 lo, .int .i64 hi]] W (RB w1 W F bb (tokenZ tk (runZ (L.take k))))) := qh (fun W x =>
          token_any (hBX.ext x) hok (by omega) (fun g hg => Nat.lt_of_lt_of_le (hF g hg) x.size) tk hnm.2 (by have := hnm.1; omega) (by omega) hatt)
        have HREL2 : Hid (∀ W, Ext wr W → ∀ e W', RB w1 W F bb (tokenZ tk (runZ (L.take k))) e W' → HRel w1 bb L (k + 1) W') := qh (fun W x e W' hr => by
          obtain ⟨_, F', H⟩ := RB.x hr
          obtain ⟨own', l', ov', ob', h2⟩ := H.out
          refine ⟨F', own', l', ov', ob', ?_, fun g hg => ?_⟩
          · have e1 : L.take (k + 1) = L.take k ++ [tk] := by rw [List.take_add_one, htk]; rfl
            rw [e1, runZ_snoc]
            exact h2
          · rcases H.new g hg with h | h
            · exact Nat.lt_of_lt_of_le (hF g h) (Nat.le_trans x.size H.mv.size)
            · exact h.2)
        obtain ⟨kd, hkd⟩ : ∃ kd, tk.kind = kd := ⟨_, rfl⟩
        obtain ⟨nm, hnm2⟩ : ∃ nm, bs tk.name = nm := ⟨_, rfl⟩
        obtain ⟨tx, htx⟩ : ∃ tx, bs tk.text = tx := ⟨_, rfl⟩
        obtain ⟨an, han⟩ : ∃ an, tk.attrs.length = an := ⟨_, rfl⟩
        rw [hkd] at q0 HTOK
        rw [hnm2] at q1 HTOK
        rw [htx] at q2 HTOK
        rw [han] at q3 HTOK
        have HK := qh hk
        clear hT hBX hF hx hatt hbk hnm hok hkd hnm2 htx han htk hgt hk
        have xr := (Ext.refl wr).alloc (.cells #[.int .i64 kd, .string nm, .string tx, .slice aa an ac, .int .i64 sf, .int .i64 lo, .int .i64 hi] 55)
        have hbn := heap_alloc_new wr (.cells #[.int .i64 kd, .string nm, .string tx, .slice aa an ac, .int .i64 sf, .int .i64 lo, .int .i64 hi] 55)
        have m0 := cellOf hbn (i := 0) (v := .int .i64 kd) rfl
        have m1 := cellOf hbn (i := 1) (v := .string nm) rfl
        have m2 := cellOf hbn (i := 2) (v := .string tx) rfl
        have m3 := cellOf hbn (i := 3) (v := .slice aa an ac) rfl
        have m4 := cellOf hbn (i := 4) (v := .int .i64 sf) rfl
        have m5 := cellOf hbn (i := 5) (v := .int .i64 lo) rfl
        have m6 := cellOf hbn (i := 6) (v := .int .i64 hi) rfl
        have XR := qh xr
        clear xr hbn
        go_wp2_with fail
        refine (HTOK.out _ XR.out).mono ?_
        intro e w5 h5
        have H5 := qh (HREL2.out _ XR.out _ _ h5)
        obtain ⟨rfl, _⟩ := RB.x h5
        clear h5 q0 q1 q2 q3 q4 q5 q6 m0 m1 m2 m3 m4 m5 m6
        go_wp2_with fail
        go_roundg g'
        case measure => omega
        case rel => exact ⟨k + 1, by first | rfl | go_num | exact intN (by omega), by have := HK.out; omega, H5.out⟩
      · have hkN : k = N := by omega
        subst hkN
        have e1 : decide ((k : Int) < (k : Int)) = false := decide_eq_false (by omega)
        obtain ⟨F, own, l, ov, ob, hBX, hF⟩ := HREL.out
        have hok := runZ_ok (L := L) (M := 131072) (fun t ht => (HSM.out.2 t ht).1) k
        have hTL : L.take k = L := List.take_of_length_le (by have := HNN.out.1; omega)
        rw [hTL] at hBX hok
        obtain ⟨m, S, hm0, hel, hsz⟩ := hBX.whole hok
        obtain ⟨g, gc, hob, hov, hV⟩ := hBX.view (by have := hok.len; omega)
        have hx : Ext w1 wr := hBX.old
        have hm1 : (l.map FrM.q)[0]? = some m.q := by rw [List.getElem?_map, hm0]; rfl
        have qr : wr.cell? ⟨g, 0, none⟩ = some (.pointer (some ⟨m.q, 0, none⟩)) := hV.row 0 m.q hm1
        have qb := cellOf hBX.blk (i := 0) (v := ov) rfl
        rw [hov] at qb
        obtain ⟨ln, hln⟩ : ∃ ln, l.length = ln + 1 := ⟨l.length - 1, by have := List.length_pos_iff.2 hBX.ne; omega⟩
        rw [hln] at qb
        have hb1 := HB1.out
        have HGA : Hid (∀ (v : Value) (n : Nat) (xs : List Value), RowP w1 (fun _ => True) 104 2 v n xs → RowRd (hide (fun y => if y = rb then some (0, 0) else none) w1) 2 v n xs) := qh (fun v n xs h => by
          have hr := h.rd
          obtain ⟨h3, ao, cap, h4, h5, h6, h7⟩ := hr
          refine ⟨h3, ao, cap, h4, h5, h6, fun a ha j x hx => hide_cell (h7 a ha j x hx) ?_⟩
          rcases h.2 with ⟨h8, a8, h9⟩ | ⟨g, cap', cur, h8, _, h10, _⟩
          · have h0 : xs = [] := List.eq_nil_of_length_eq_zero (by rw [h3, h8, Nat.zero_mul])
            rw [h0] at hx; simp at hx
          · rw [h4] at h8
            cases h8
            cases ha
            rw [Addr.add_lit]
            refine if_neg fun e => ?_
            have e : g = rb := e
            rw [e, hb1] at h10
            simp at h10)
        have HPL := qh (plain_any HGA.out (topN (runZ L).z) (by omega) wr S m.q hel)
        have HXR := qh (X1.out.trans hx)
        have HX1R := qh hx
        have hbr := hx.block HB1.out
        have HBR := qh hbr
        obtain ⟨mq, hmq⟩ : ∃ mq, m.q = mq := ⟨_, rfl⟩
        rw [hmq] at HPL qr
        clear hBX hF hok hm0 hel hsz hob hov hV hx hm1 hln hb1 hbr hmq hTL
        go_wp2_with (go_at_call 26; refine HPL.out.mono ?_)
        rintro e w6 ⟨v0, F0, rfl, ho, x6, hF0⟩
        obtain ⟨na, nac, nk, nkc, rfl⟩ := ho.shape
        have hb6 := x6.block HBR.out
        have r0 := cellOf hb6 (i := 0) (v := .int .i64 0) rfl
        have r1 := cellOf hb6 (i := 1) (v := .slice none 0 0) rfl
        have r2 := cellOf hb6 (i := 2) (v := .string ⟨#[]⟩) rfl
        have r3 := cellOf hb6 (i := 3) (v := .slice none 0 0) rfl
        have f0 := freeOf hb6 0
        have f1 := freeOf hb6 1
        have f2 := freeOf hb6 2
        have f3 := freeOf hb6 3
        have hrbl : rb < w1.heap.size := (Array.getElem?_eq_some_iff.1 HB1.out).1
        have FIN : Hid (∀ u0 u1 u2 u3 : Value, Ext w ((((w6.setCell ⟨rb, 0, none⟩ u0).setCell ⟨rb, 1, none⟩ u1).setCell ⟨rb, 2, none⟩ u2).setCell ⟨rb, 3, none⟩ u3) ∧
            RdN ((((w6.setCell ⟨rb, 0, none⟩ u0).setCell ⟨rb, 1, none⟩ u1).setCell ⟨rb, 2, none⟩ u2).setCell ⟨rb, 3, none⟩ u3) (topN (runZ L).z) (.agg #[.int .i64 (topN (runZ L).z).tag, .slice na (topN (runZ L).z).attrs.length nac, .string (topN (runZ L).z).text, .slice nk (topN (runZ L).z).kids.length nkc])) := qh (fun u0 u1 u2 u3 => by
          have far : ∀ (q : Addr) y, w6.cell? q = some y → q.block ≠ rb → ((((w6.setCell ⟨rb, 0, none⟩ u0).setCell ⟨rb, 1, none⟩ u1).setCell ⟨rb, 2, none⟩ u2).setCell ⟨rb, 3, none⟩ u3).cell? q = some y := fun q y hq hne => by
            rw [World.cell?_setCell_far _ _ _ _ (Ne.symm hne), World.cell?_setCell_far _ _ _ _ (Ne.symm hne), World.cell?_setCell_far _ _ _ _ (Ne.symm hne), World.cell?_setCell_far _ _ _ _ (Ne.symm hne)]
            exact hq
          refine ⟨((((HXR.out.trans x6 |> X0.out.trans).setCell (p := ⟨rb, 0, none⟩) (by rw [HRB.out]; exact Nat.le_refl _) u0).setCell (p := ⟨rb, 1, none⟩) (by rw [HRB.out]; exact Nat.le_refl _) u1).setCell (p := ⟨rb, 2, none⟩) (by rw [HRB.out]; exact Nat.le_refl _) u2).setCell (p := ⟨rb, 3, none⟩) (by rw [HRB.out]; exact Nat.le_refl _) u3, ?_⟩
          refine ho.rd (B := wr.heap.size) (fun q y hq => ?_) (fun q y hq hB => far q y hq (by have := HX1R.out.size; omega)) (fun x hx => (hF0 x hx).1)
          obtain ⟨h1, h2⟩ := hide_apart _ _ q y hq
          dsimp only at h2
          refine far q y ((HX1R.out.trans x6).cells _ _ h1) fun e => ?_
          rw [if_pos e] at h2
          cases h2)
        obtain ⟨nd, hnd⟩ : ∃ nd, topN (runZ L).z = nd := ⟨_, rfl⟩
        have HND : Hid (hostZ (tokens t.data.toList) = nd) := qh (by rw [HNN.out.2]; exact hnd)
        rw [hnd] at FIN ⊢
        clear ho hF0 x6 hb6 hrbl qr qb hnd
        go_wp2_with fail
        refine bodyPost_ret (v := .tuple #[.agg #[.int .i64 nd.tag, .slice na nd.attrs.length nac, .string nd.text, .slice nk nd.kids.length nkc], .int .i64 0]) (by simp [results, Tryz.results10, go_sem, r0, r1, r2, r3]) rfl ?_
        exact .inr ⟨H8.out, _, rfl, (FIN.out _ _ _ _).1, by rw [HND.out]; exact (FIN.out _ _ _ _).2⟩
def exN : ByteArray := ⟨#[60, 112, 62, 97, 60, 112, 62, 98]⟩
def exM : ByteArray := ⟨#[60, 117, 108, 62, 60, 108, 105, 62, 97, 60, 108, 105, 62, 98, 60, 47, 117, 108, 62, 99]⟩
theorem exN_anew : anewB exN = exN := by kernel_rfl
theorem exM_anew : anewB exM = exM := by kernel_rfl
def txN (c : UInt8) : PN := .mk 0 [] ⟨#[c]⟩ []
theorem exN_host : hostZ (tokens exN.data.toList) = .mk 1 [] ⟨#[]⟩ [.mk 2 [] ⟨#[]⟩ [txN 97], .mk 2 [] ⟨#[]⟩ [txN 98]] := by kernel_rfl
theorem exM_host : hostZ (tokens exM.data.toList) = .mk 1 [] ⟨#[]⟩ [.mk 7 [] ⟨#[]⟩ [.mk 9 [] ⟨#[]⟩ [txN 97], .mk 9 [] ⟨#[]⟩ [txN 98]], txN 99] := by kernel_rfl
theorem Host_short {t : ByteArray} {n : PN} {w : World} {e : Ending} {w' : World} (h : HostIs t w e w') (ht : t.size ≤ 8192) (hn : hostZ (tokens t.data.toList) = n) : ∃ v, e = .returned (.tuple #[v, .int .i64 0]) ∧ Ext w w' ∧ RdN w' n v := by
  rcases h with ⟨h1, _⟩ | ⟨_, v, h2, h3, h4⟩
  · omega
  · exact ⟨v, h2, h3, hn ▸ h4⟩
theorem kid_in {w : World} {n : PN} {c0 c1 c2 : Value} {bk : Option Addr} {kl kc : Nat} (h : RdN w n (.agg #[c0, c1, c2, .slice bk kl kc])) {j : Nat} {k : PN} (hk : n.kids[j]? = some k) : ∃ a, bk = some a ∧ ∃ ba bc xk xc, w.cell? (a.add (j * 4)) = some (.int .i64 k.tag) ∧ w.cell? (a.add (j * 4 + 2)) = some (.string k.text) ∧ w.cell? (a.add (j * 4 + 3)) = some (.slice xk k.kids.length xc) ∧
    RdN w k (.agg #[.int .i64 k.tag, .slice ba k.attrs.length bc, .string k.text, .slice xk k.kids.length xc]) := by
  obtain ⟨av, kv, e, _, ka, kcap, rfl, h1, h2, h3, h4⟩ := h.open
  simp only [Value.agg.injEq, Array.mk.injEq, List.cons.injEq, Value.slice.injEq, and_true] at e
  obtain ⟨_, _, _, rfl, rfl, rfl⟩ := e
  cases bk with
  | none =>
    have h5 := (h3 rfl).1
    have h6 := (List.getElem?_eq_some_iff.1 hk).1
    omega
  | some a =>
    obtain ⟨c0, c1, c2, c3, q0, q1, q2, q3, h5⟩ := h4 a rfl j k hk
    obtain ⟨y1, y2, y3, y4, en⟩ := h5.shape
    cases en
    exact ⟨a, rfl, _, _, _, _, q0, q2, q3, h5⟩
theorem host_in {w : World} {n : PN} {v : Value} (h : RdN w n v) : ∃ aa ac ka kc, v = .agg #[.int .i64 n.tag, .slice aa n.attrs.length ac, .string n.text, .slice ka n.kids.length kc] := by
  obtain ⟨y1, y2, y3, y4, en⟩ := h.shape
  exact ⟨y1, y2, y3, y4, en⟩
theorem awake15_any (w : World) (hl : LW w) : Calls Tryz.prog 9 #[] w (RBool true w) := by
  have HA := qh (Host_any exN (by decide) w hl)
  rw [exN_anew] at HA
  have HB := qh (fun W hW => Host_any exM (by decide) W hW)
  rw [exM_anew] at HB
  have HL := qh hl
  clear hl
  unfold exN at HA
  unfold exM at HB
  go_enter Tryz.func9, Tryz.ntmps9
  go_wp2_with (go_at_call 10; refine HA.out.mono ?_)
  intro e w1 h1
  obtain ⟨v1, rfl, x1, r1⟩ := Host_short (t := exN) h1 (by decide) exN_host
  obtain ⟨aa, ac, ka, kc, rfl⟩ := host_in r1
  obtain ⟨⟨b, o, sp⟩, rfl, ba, bc, xk, xc, q0, q2, q3, rk⟩ := kid_in r1 (j := 1) rfl
  obtain ⟨⟨b', o', sp'⟩, rfl, ba', bc', xk', xc', p0, p2, p3, rt⟩ := kid_in rk (j := 0) rfl
  rw [add_pos _ _ (by decide)] at q3 p2
  dsimp only [PN.tag, PN.text, PN.kids, PN.attrs, txN, List.length_cons, List.length_nil] at q3 p2 ⊢
  have X1 := qh x1
  have Q3 := qh (And.intro q3 p2)
  clear h1 r1 rk rt q0 q2 p0 p3 q3 p2 x1
  have xb := (Ext.refl w1).alloc (.cells #[.int .i64 1, .slice aa 0 ac, .string ⟨#[]⟩, .slice (some ⟨b, o, sp⟩) 2 kc] 26)
  have hbn := heap_alloc_new w1 (.cells #[.int .i64 1, .slice aa 0 ac, .string ⟨#[]⟩, .slice (some ⟨b, o, sp⟩) 2 kc] 26)
  have XB := qh xb
  have HBN := qh hbn
  clear xb hbn
  go_wp2_with (go_at_call 10; refine (HB.out _ (HL.out.ext (X1.out.trans XB.out))).mono ?_)
  intro e w2 h2
  obtain ⟨v2, rfl, x2, r2⟩ := Host_short (t := exM) h2 (by decide) exM_host
  obtain ⟨aa2, ac2, ka2, kc2, rfl⟩ := host_in r2
  obtain ⟨⟨b2, o2, sp2⟩, rfl, ba2, bc2, xk2, xc2, y0, y2, y3, rk2⟩ := kid_in r2 (j := 0) rfl
  obtain ⟨a9, e9, ba3, bc3, xk3, xc3, z0, z2, z3, rk3⟩ := kid_in r2 (j := 1) rfl
  cases e9
  rw [add_pos _ _ (by decide)] at y3 z2
  dsimp only [PN.tag, PN.text, PN.kids, PN.attrs, txN, List.length_cons, List.length_nil] at y3 z2 ⊢
  have X2 := qh ((X1.out.trans XB.out).trans x2)
  have xf := x2.alloc (.cells #[.int .i64 1, .slice aa2 0 ac2, .string ⟨#[]⟩, .slice (some ⟨b2, o2, sp2⟩) 2 kc2] 26)
  have hbf := heap_alloc_new w2 (.cells #[.int .i64 1, .slice aa2 0 ac2, .string ⟨#[]⟩, .slice (some ⟨b2, o2, sp2⟩) 2 kc2] 26)
  have xg := (Ext.refl w2).alloc (.cells #[.int .i64 1, .slice aa2 0 ac2, .string ⟨#[]⟩, .slice (some ⟨b2, o2, sp2⟩) 2 kc2] 26)
  have s3 := (XB.out.trans xf).cell Q3.out.1
  have s2 := (XB.out.trans xf).cell Q3.out.2
  have s0 := xf.cell (cellOf HBN.out (i := 3) (v := .slice (some ⟨b, o, sp⟩) 2 kc) rfl)
  have t0 := cellOf hbf (i := 3) (v := .slice (some ⟨b2, o2, sp2⟩) 2 kc2) rfl
  have t3 := xg.cell y3
  have t2 := xg.cell z2
  have XF := qh ((X1.out.trans XB.out).trans xf)
  clear h2 r2 rk2 rk3 y0 y2 z0 z3 x2 xf hbf xg y3 z2
  go_wp2_with fail
  go_ret
  exact ⟨rfl, XF.out⟩
end Go.Proofs.YtalaajbajgdglaaGreatDoor
namespace Go.Proofs.YtalaajbajgdglaaGreatDoor
open Go Go.RowKit Go.BigFrame
structure Scan (p : UInt8 → Bool) (s : ByteArray) (k m : Nat) : Prop where
  le : k ≤ m
  fit : m ≤ s.size
  on : ∀ j c, k ≤ j → j < m → s.data.toList[j]? = some c → p c = true
  off : ∀ c, s.data.toList[m]? = some c → p c = false
theorem scan_of (p : UInt8 → Bool) (s : ByteArray) (k : Nat) (hk : k ≤ s.size) : ∃ m, Scan p s k m ∧ (s.data.toList.drop k).dropWhile p = s.data.toList.drop m ∧ s.extract k m = bs ((s.data.toList.drop k).takeWhile p) := by
  have e0 : s.data.toList.length = s.size := rfl
  obtain ⟨l, hl⟩ : ∃ l, s.data.toList = l := ⟨_, rfl⟩
  rw [hl] at e0
  have h1 := take_drop_while p (l.drop k)
  have h2 := congrArg List.length h1
  rw [List.length_append, List.length_drop] at h2
  obtain ⟨n, hn⟩ : ∃ n, ((l.drop k).takeWhile p).length = n := ⟨_, rfl⟩
  rw [hn] at h2
  have hd : (l.drop k).dropWhile p = l.drop (k + n) := by
    rw [← List.drop_drop]
    conv => rhs; rw [← h1]
    rw [← hn, List.drop_left]
  refine ⟨k + n, ⟨by omega, by omega, ?_, ?_⟩, by rw [hl]; exact hd, ?_⟩
  · intro j c hj hjm hc
    rw [hl] at hc
    have h3 : (l.drop k)[j - k]? = some c := by rw [List.getElem?_drop, show k + (j - k) = j by omega]; exact hc
    rw [← h1, List.getElem?_append_left (by omega)] at h3
    exact List.all_eq_true.1 List.all_takeWhile c (List.mem_of_getElem? h3)
  · intro c hc
    rw [hl] at hc
    have h3 := List.head?_dropWhile_not p (l.drop k)
    rw [hd, List.head?_drop, hc] at h3
    simpa using h3
  · have h := bs_cut s.data.toList k (k + n)
    rw [bs_list, hl, show k + n - k = n by omega] at h
    rw [h, hl]
    conv => lhs; rw [← h1]
    rw [← hn, List.take_left]
theorem at_idx (s : ByteArray) (j : Nat) (h : j < s.size) : ∃ c, s.data.toList[j]? = some c ∧ ∀ W : World, (Instr.index 9 (.string s) (.int .i64 (j : Int))).run Tryz.prog W = .ok (.int .u8 (c.toNat : Int)) W := by
  refine ⟨s[j]'h, by rw [List.getElem?_eq_getElem (by exact h)]; rfl, fun W => ?_⟩
  rw [run_index_string W 9 s .i64 (j : Int) Tryz.underlying9, dif_pos ⟨by omega, by omega⟩]
  simp only [Int.toNat_natCast]
theorem idx_of (s : ByteArray) (j : Nat) (c : UInt8) (h : s.data.toList[j]? = some c) (W : World) : (Instr.index 9 (.string s) (.int .i64 (j : Int))).run Tryz.prog W = .ok (.int .u8 (c.toNat : Int)) W := by
  have hj : j < s.size := (List.getElem?_eq_some_iff.1 h).1
  obtain ⟨d, h1, h2⟩ := at_idx s j hj
  rw [h] at h1
  cases h1
  exact h2 W
theorem rLetter_any (c : UInt8) (w : World) : Calls Tryz.prog 110 #[.int .u8 (c.toNat : Int)] w (RBool (letterB c) w) := by
  have x := Ext.refl w
  obtain ⟨b, hb⟩ : ∃ b, letterB c = b := ⟨_, rfl⟩
  rw [hb]
  rw [letter_iff] at hb
  obtain ⟨z, hz⟩ : ∃ z, c.toNat = z := ⟨_, rfl⟩
  rw [hz] at hb ⊢
  clear hz

  by_cases q0 : z < 65
  · have hb0 : b = false := by rw [← hb]; exact decide_eq_false (by omega)
    subst hb0
    clear hb
    have t0 : decide ((97 : Int) ≤ (z : Int)) = false := decide_eq_false (by omega)
    have t1 : decide ((65 : Int) ≤ (z : Int)) = false := decide_eq_false (by omega)
    have n0 : decide (97 ≤ z) = false := decide_eq_false (by omega)
    have n1 : decide (65 ≤ z) = false := decide_eq_false (by omega)
    clear q0
    go_enter Tryz.func110, Tryz.ntmps110
    go_wp2_with fail
    go_ret
    exact ⟨rfl, x⟩
  by_cases q1 : z ≤ 90
  · have hb0 : b = true := by rw [← hb]; exact decide_eq_true (by omega)
    subst hb0
    clear hb
    have t0 : decide ((97 : Int) ≤ (z : Int)) = false := decide_eq_false (by omega)
    have t1 : decide ((65 : Int) ≤ (z : Int)) = true := decide_eq_true (by omega)
    have t2 : decide ((z : Int) ≤ 90) = true := decide_eq_true (by omega)
    have n0 : decide (97 ≤ z) = false := decide_eq_false (by omega)
    have n1 : decide (65 ≤ z) = true := decide_eq_true (by omega)
    have n2 : decide (z ≤ 90) = true := decide_eq_true (by omega)
    clear q0
    clear q1
    go_enter Tryz.func110, Tryz.ntmps110
    go_wp2_with fail
    go_ret
    exact ⟨rfl, x⟩
  by_cases q2 : z < 97
  · have hb0 : b = false := by rw [← hb]; exact decide_eq_false (by omega)
    subst hb0
    clear hb
    have t0 : decide ((97 : Int) ≤ (z : Int)) = false := decide_eq_false (by omega)
    have t1 : decide ((65 : Int) ≤ (z : Int)) = true := decide_eq_true (by omega)
    have t2 : decide ((z : Int) ≤ 90) = false := decide_eq_false (by omega)
    have n0 : decide (97 ≤ z) = false := decide_eq_false (by omega)
    have n1 : decide (65 ≤ z) = true := decide_eq_true (by omega)
    have n2 : decide (z ≤ 90) = false := decide_eq_false (by omega)
    clear q0
    clear q1
    clear q2
    go_enter Tryz.func110, Tryz.ntmps110
    go_wp2_with fail
    go_ret
    exact ⟨rfl, x⟩
  by_cases q3 : z ≤ 122
  · have hb0 : b = true := by rw [← hb]; exact decide_eq_true (by omega)
    subst hb0
    clear hb
    have t0 : decide ((97 : Int) ≤ (z : Int)) = true := decide_eq_true (by omega)
    have t1 : decide ((z : Int) ≤ 122) = true := decide_eq_true (by omega)
    have n0 : decide (97 ≤ z) = true := decide_eq_true (by omega)
    have n1 : decide (z ≤ 122) = true := decide_eq_true (by omega)
    clear q0
    clear q1
    clear q2
    clear q3
    go_enter Tryz.func110, Tryz.ntmps110
    go_wp2_with fail
    go_ret
    exact ⟨rfl, x⟩
  have hb0 : b = false := by rw [← hb]; exact decide_eq_false (by omega)
  subst hb0
  clear hb
  have t0 : decide ((97 : Int) ≤ (z : Int)) = true := decide_eq_true (by omega)
  have t1 : decide ((z : Int) ≤ 122) = false := decide_eq_false (by omega)
  have t2 : decide ((65 : Int) ≤ (z : Int)) = true := decide_eq_true (by omega)
  have t3 : decide ((z : Int) ≤ 90) = false := decide_eq_false (by omega)
  have n0 : decide (97 ≤ z) = true := decide_eq_true (by omega)
  have n1 : decide (z ≤ 122) = false := decide_eq_false (by omega)
  have n2 : decide (65 ≤ z) = true := decide_eq_true (by omega)
  have n3 : decide (z ≤ 90) = false := decide_eq_false (by omega)
  clear q0
  clear q1
  clear q2
  clear q3
  go_enter Tryz.func110, Tryz.ntmps110
  go_wp2_with fail
  go_ret
  exact ⟨rfl, x⟩

theorem digit_iff (c : UInt8) : digitB c = decide (48 ≤ c.toNat ∧ c.toNat ≤ 57) := rfl
theorem rname_any (s : ByteArray) (k m : Nat) (hs : s.size ≤ 1000000) (h : Scan alnumB s k m) (w : World) :
    Calls Tryz.prog 111 #[.string s, .int .i64 (k : Int)] w (RVal (.int .i64 (m : Int)) w) := by
  have HSC := qh h
  have hkm := h.le
  have hms := h.fit
  clear h
  go_enter Tryz.func111, Tryz.ntmps111
  go_wp2_with fail
  go_loopw [1] (fun iv wr => ∃ j : Nat, k ≤ j ∧ j ≤ m ∧ iv = .int .i64 j ∧ Ext w wr) (fun iv _ => m - (intOf iv).toNat)
  case atStart => exact ⟨k, Nat.le_refl _, hkm, rfl, Ext.refl _⟩
  case round =>
    obtain ⟨j, hkj, hjm, rfl, xr⟩ := hrel
    have XR := qh xr
    clear xr
    by_cases hsz : j < s.size
    · obtain ⟨c, hcl, -⟩ := at_idx s j hsz
      have hix := idx_of s j c hcl
      have ON := qh (fun h => HSC.out.on j c hkj h hcl)
      have OFF := qh (fun (h : j = m) => HSC.out.off c (h ▸ hcl))
      have e0 : decide ((j : Int) < (s.size : Int)) = true := decide_eq_true (by omega)
      have e0n : decide (j < s.size) = true := decide_eq_true hsz
      have HLET := qh (fun W => rLetter_any c W)
      have DG := qh (digit_iff c)
      obtain ⟨lb, hlb⟩ : ∃ b, letterB c = b := ⟨_, rfl⟩
      have AL : alnumB c = (lb || digitB c) := by rw [← hlb]; rfl
      rw [AL] at ON OFF
      rw [hlb] at HLET
      have hw1 : IntKind.i64.wrap ((j : Int) + 1) = (j : Int) + 1 := IntWalk.i64_in _ (by omega)
      obtain ⟨z, hz⟩ : ∃ z, c.toNat = z := ⟨_, rfl⟩
      rw [hz] at HLET hix DG
      clear hcl AL hlb hz
      cases lb with
      | true =>
        have hlt : j < m := by
          rcases Nat.lt_or_ge j m with h | h
          · exact h
          · have := OFF.out (by omega); simp at this
        clear hsz
        go_wp2_with (go_at_call 110; refine (HLET.out _).mono ?_)
        rintro e w1 ⟨rfl, x1⟩
        go_wp2_with fail
        go_roundw
        case rel => exact ⟨j + 1, by omega, by omega, by go_num, XR.out.trans x1⟩
        case measure => simp [intOf]; omega
      | false =>
        rw [Bool.false_or, DG.out] at ON OFF
        clear DG
        by_cases q1 : 48 ≤ z
        · have t1 : decide ((48 : Int) ≤ (z : Int)) = true := decide_eq_true (by omega)
          have n1 : decide (48 ≤ z) = true := decide_eq_true q1
          by_cases q2 : z ≤ 57
          · have t2 : decide ((z : Int) ≤ 57) = true := decide_eq_true (by omega)
            have n2 : decide (z ≤ 57) = true := decide_eq_true q2
            have hlt : j < m := by
              rcases Nat.lt_or_ge j m with h | h
              · exact h
              · have := OFF.out (by omega); simp at this; omega
            clear hsz q1 q2
            go_wp2_with (go_at_call 110; refine (HLET.out _).mono ?_)
            rintro e w1 ⟨rfl, x1⟩
            go_wp2_with fail
            go_roundw
            case rel => exact ⟨j + 1, by omega, by omega, by go_num, XR.out.trans x1⟩
            case measure => simp [intOf]; omega
          · have t2 : decide ((z : Int) ≤ 57) = false := decide_eq_false (by omega)
            have n2 : decide (z ≤ 57) = false := decide_eq_false q2
            have hlt : j = m := by
              rcases Nat.lt_or_ge j m with h | h
              · have := ON.out h; simp at this; omega
              · omega
            subst hlt
            clear hsz q1 q2
            go_wp2_with (go_at_call 110; refine (HLET.out _).mono ?_)
            rintro e w1 ⟨rfl, x1⟩
            go_wp2_with fail
            go_ret
            exact ⟨rfl, XR.out.trans x1⟩
        · have t1 : decide ((48 : Int) ≤ (z : Int)) = false := decide_eq_false (by omega)
          have n1 : decide (48 ≤ z) = false := decide_eq_false q1
          have hlt : j = m := by
            rcases Nat.lt_or_ge j m with h | h
            · have := ON.out h; simp at this; omega
            · omega
          subst hlt
          clear hsz q1
          go_wp2_with (go_at_call 110; refine (HLET.out _).mono ?_)
          rintro e w1 ⟨rfl, x1⟩
          go_wp2_with fail
          go_ret
          exact ⟨rfl, XR.out.trans x1⟩
    · have e0 : decide ((j : Int) < (s.size : Int)) = false := decide_eq_false (by omega)
      have e0n : decide (j < s.size) = false := decide_eq_false hsz
      have hlt : j = m := by omega
      subst hlt
      clear hsz
      go_wp2_with fail
      go_ret
      exact ⟨rfl, XR.out⟩
end Go.Proofs.YtalaajbajgdglaaGreatDoor
