/- DomGrafts: what was grafted is told as it was, by as many nodes more; taken off and dropped, all is as it was. No conditions. -/
import Derived.Test.YtiglflmjidikpaaGraftP
import Derived.Test.YtiglflmjidikpaaTurn
import Derived.Test.YtiglflmjidikpaaDomSound
namespace Go.Proofs.Ytiglflmjidikpaa
open Go Go.RowKit Go.BigFrame Go.ChangeShapes Go.WideShapes
set_option linter.unusedVariables false
set_option linter.unusedSimpArgs false

set_option maxRecDepth 20000 in
theorem keep_node {H : Type} {enc : TypeId × Value → H} {w : World} {b0 base : Nat} {spare : Nat → Bool} {held : Bool} {v : Value} {d : DataW H} {p : List MemPlace}
    (hv : Value.okWide Try.prog w .any b0 30 v) (h : DataW.Trod enc Try.prog w base spare held 30 v d p) : ∃ n, RdN w n v := by
  obtain ⟨cs, rfl, _⟩ := okWide_struct Try.underlying30 hv
  obtain ⟨m, hm⟩ := h
  obtain ⟨c0, c1, c2, c3, n, e, hr⟩ := read_node m _ _ hm
  have e' : cs.toList = [c0, c1, c2, c3] := e
  obtain ⟨l⟩ := cs
  have e2 : l = [c0, c1, c2, c3] := e'
  subst e2
  exact ⟨n, hr⟩
section
variable {w0 w : World} {tb : Nat} {T : Tr} {g : World}
theorem Sit.base (h : Sit w0 w tb T g) {w1 : World} (x : Ext w1 w0) : Sit w1 w tb T g := by
  obtain ⟨own, ptr, hT, hO, hx, hf, ha⟩ := h.out
  exact ⟨own, ptr, hT, hO, x.trans hx, fun b hb => Nat.le_trans x.size (hf b hb), ha⟩
/-- four cells of an old box are written: all else is told as it was -/
theorem Sit.poke (h : Sit w0 w tb T g) {w1 : World} (x : Ext w1 w0) {B : Nat} (h1 : w1.heap.size ≤ B) (h2 : B < w0.heap.size) {c0 c1 c2 c3 : Value} {t : TypeId} (hb : w.heap[B]? = some (.cells #[c0, c1, c2, c3] t (0, 0))) (z0 z1 z2 z3 : Value) :
    ∃ g2, Sit w1 (put4 w B 0 z0 z1 z2 z3) tb T g2 ∧ (∀ q y, g.cell? q = some y → q.block ≠ B → g2.cell? q = some y) ∧ Box4 g2 B z0 z1 z2 z3 := by
  obtain ⟨own, ptr, hT, hO, hx, hf, ha⟩ := h.out
  have hn : own B = none := by
    cases ho : own B with
    | none => rfl
    | some z => have := hf B (by simp [ho]); omega
  have hk : Keep own w (put4 w B 0 z0 z1 z2 z3) := fun b hb' => put4_other (fun e => by subst e; exact hb' hn) _ _ _ _
  have hO' : Owned own (put4 w B 0 z0 z1 z2 z3) := fun b hb => by rw [put4_size]; exact hO b hb
  refine ⟨hide own (put4 w B 0 z0 z1 z2 z3), ⟨own, ptr, hT.keep hk, hO', put4_ext (x.trans hx) h1 _ _ _ _ _, fun b hb => Nat.le_trans x.size (hf b hb), hide_apart _ _⟩, fun q y hq hne => ?_, ?_⟩
  · obtain ⟨q1, q2⟩ := ha q y hq
    exact hide_cell ((World.cell?_of_block (put4_other hne _ _ _ _)).trans q1) q2
  · have e := put4_same (o := 0) hb z0 z1 z2 z3
    exact ⟨hide_cell (cellOf e (i := 0) rfl) hn, hide_cell (cellOf e (i := 1) rfl) hn, hide_cell (cellOf e (i := 2) rfl) hn, hide_cell (cellOf e (i := 3) rfl) hn⟩
/-- a plain tree is told; a world of its own reads it -/
def SitPlain2 (n : PN) (w0 w : World) (tb : Nat) (T : Tr) (g : World) (e : Ending) (w' : World) : Prop :=
  ∃ a ac k kc gp g2, e = .returned (.agg #[.int .i64 n.tag, .slice a n.attrs.length ac, .string n.text, .slice k n.kids.length kc]) ∧ RdN gp n (.agg #[.int .i64 n.tag, .slice a n.attrs.length ac, .string n.text, .slice k n.kids.length kc]) ∧ Sit w0 w' tb T g2 ∧ Cells g g2 ∧ Cells gp g2 ∧ ∀ q y, gp.cell? q = some y → w.heap.size ≤ q.block
theorem Sit.plain2 (h : Sit w0 w tb T g) {f : FuncId} {args : Array Value} {n : PN} (hc : Calls Try.prog f args w (PlainIs n w)) : Calls Try.prog f args w (SitPlain2 n w0 w tb T g) := by
  refine hc.mono ?_
  rintro e w' ⟨v, g', rfl, hr, x, hg'⟩
  obtain ⟨a, ac, k, kc, rfl⟩ := hr.shape
  obtain ⟨g2, h1, h2, h3⟩ := h.grow x
  exact ⟨a, ac, k, kc, g', g2, rfl, hr, h1, h2, fun q y hq => h3 q y (hg' q y hq).1 (hg' q y hq).2, fun q y hq => (hg' q y hq).2⟩
theorem sit_plain2 (h : Sit w0 w tb T g) {d : Nat → Nat} (hw : WF T d) (hA : AttrsOk T) {i : Nat} {nd : Nd} (hi : T.nodes[i]? = some (some nd)) {n : PN} (hn : T.plain i = n) {z : Int} (hz : (i : Int) = z) :
    Calls Try.prog 18 #[.pointer (some ⟨tb, 0, none⟩), .int .i64 z] w (SitPlain2 n w0 w tb T g) := by
  subst hz
  obtain ⟨own, ptr, hT, hO, _⟩ := h.out
  exact h.plain2 (hn ▸ Plain_some hT hO hw hA hi)
theorem sit_anew (h : Sit w0 w tb T g) {n : PN} (hl : n.light = true) (hsz : n.size ≤ 100000) {v : Value} (hr : RdN g n v) : Calls Try.prog 32 #[v] w (SitPlain2 n.anew w0 w tb T g) :=
  h.plain2 (AnewNode_any (w0 := w) n (PN.light_fair n hl) (PN.light_short n hl) hsz w v (hr.cells h.cells) (Ext.refl w))
theorem sit_size (h : Sit w0 w tb T g) {n : PN} (hsz : n.size ≤ 100000) {v : Value} (hr : RdN g n v) {z : Int} (hz : (n.size : Int) = z) : Calls Try.prog 33 #[v] w (SitIs (.int .i64 z) w0 tb T g) :=
  (Size_any (w0 := w) n v w hsz (hr.cells h.cells) (Ext.refl w)).mono fun e w' hh => ⟨hz ▸ hh.1, h.ext hh.2⟩
theorem sit_count' (h : Sit w0 w tb T g) {z : Int} (hz : T.count = z) : Calls Try.prog 19 #[.pointer (some ⟨tb, 0, none⟩)] w (SitIs (.int .i64 z) w0 tb T g) :=
  h.same fun own ptr hT _ => hz ▸ Count_any hT
end
set_option maxRecDepth 100000 in
set_option maxHeartbeats 8000000 in
theorem domGrafts_walk (cap : Int) (hc : (Lit.int .i64 cap).wf = true) (deep : Int) (hd : (Lit.int .i64 deep).wf = true) {w : World} (v : Value) (l : List Cl) (hl : CallsRd w l v) (par : Int) (hpar : (Lit.int .i64 par).wf = true) (at' : Int) (hat : (Lit.int .i64 at').wf = true) (nv : Value) (n : PN) (hn : RdN w n nv) :
    Calls Try.prog 4 #[.int .i64 cap, .int .i64 deep, v, .int .i64 par, .int .i64 at', nv] w (RBool true w) := by
  have HL := Lib.hid hl
  have HN := Lib.hid hn
  obtain ⟨ao, vcap, rfl, _⟩ := hl
  obtain ⟨aa, acap, ka, kcap, rfl⟩ := hn.shape
  clear hc hd hpar hat hn
  have x1 := (Ext.refl w).alloc (.cells #[.int .i64 n.tag, .slice aa n.attrs.length acap, .string n.text, .slice ka n.kids.length kcap] 30)
  have hbox := heap_alloc_new w (.cells #[.int .i64 n.tag, .slice aa n.attrs.length acap, .string n.text, .slice ka n.kids.length kcap] 30)
  have hbz : w.heap.size < (w.alloc (.cells #[.int .i64 n.tag, .slice aa n.attrs.length acap, .string n.text, .slice ka n.kids.length kcap] 30)).heap.size := by simp
  go_enter Try.func4, Try.ntmps4
  go_upto_region 1 with fail
  obtain ⟨wb, hwb⟩ : ∃ wb : World, wb = w.alloc (.cells #[.int .i64 n.tag, .slice aa n.attrs.length acap, .string n.text, .slice ka n.kids.length kcap] 30) := ⟨_, rfl⟩
  rw [← hwb] at x1 hbox hbz ⊢
  clear hwb
  have HB := Lib.hid hbox
  have HBZ := Lib.hid hbz
  have X1 := Lib.hid x1
  clear x1 hbox hbz
  go_wp2_with fail
  refine (Heavy_any (HL.out.ext X1.out)).mono ?_
  rintro e w1 ⟨b, rfl, hx1, hb⟩
  cases b with
  | true =>
    go_wp2_with (go_at_call 16; refine (awake_any _).mono ?_; rintro e w2 ⟨rfl, hx2⟩)
    go_ret
    exact ⟨rfl, X1.out.trans (hx1.trans hx2)⟩
  | false =>
    have HG := Lib.hid (hb rfl)
    clear hb
    have hb1 := hx1.block HB.out
    have c0 := cellOf hb1 (i := 0) (v := .int .i64 n.tag) rfl
    have c1 := cellOf hb1 (i := 1) (v := .slice aa n.attrs.length acap) rfl
    have c2 := cellOf hb1 (i := 2) (v := .string n.text) rfl
    have c3 := cellOf hb1 (i := 3) (v := .slice ka n.kids.length kcap) rfl
    have HX1 := Lib.hid (X1.out.trans hx1)
    have HBX1 := Lib.hid hx1
    clear hb1 hx1
    go_wp2_with fail
    refine (weigh_any n _ 2000 w1 HN.out HX1.out (by omega) (by omega)).mono ?_
    rintro e w2 ⟨r, hr, rfl, r0, r1, hlt, hx2⟩
    have HR := Lib.hid hr
    clear hr c0 c1 c2 c3
    by_cases hneg : r < 0
    · clear hlt
      have HX2 := Lib.hid hx2
      clear hx2
      go_wp2_with (go_at_call 16; refine (awake_any _).mono ?_; rintro e w3 ⟨rfl, hx3⟩)
      go_ret
      exact ⟨rfl, HX1.out.trans (HX2.out.trans hx3)⟩
    · obtain ⟨hlight, hsz⟩ := hlt (by omega)
      replace hsz : n.size ≤ 2000 := by omega
      have HLT := Lib.hid hlight
      have HSZ := Lib.hid hsz
      have HB2 := Lib.hid ((HBX1.out.trans hx2).block HB.out)
      have HX2 := Lib.hid (HX1.out.trans hx2)
      have HBZ2 := Lib.hid (Nat.lt_of_lt_of_le HBZ.out (HBX1.out.trans hx2).size)
      clear hlight hsz hlt hx2 r0 r1 HR HBX1
      go_wp2_with fail
      refine (Played_any cap deep (HL.out.ext HX2.out) HG.out).mono ?_
      rintro e w3 (⟨rfl, hx3⟩ | ⟨tb, rfl, ht⟩)
      · go_wp2_with (go_at_call 16; refine (awake_any _).mono ?_; rintro e w4 ⟨rfl, hx4⟩)
        go_ret
        exact ⟨rfl, HX2.out.trans (hx3.trans hx4)⟩
      · obtain ⟨T, ⟨⟨d, hw⟩, hA⟩, hs⟩ := ht.sit
        obtain ⟨m, hm⟩ : ∃ m, m = T.plain ((0 : Nat) : Int) := ⟨_, rfl⟩
        have fm : m.fair = true := hm ▸ plain_fair hA _
        obtain ⟨rd, r1, _, _⟩ := hw.root
        obtain ⟨cnt, hcnt⟩ : ∃ cnt : Int, T.count = cnt := ⟨_, rfl⟩
        have hcn0 := hw.small.count0
        have hcn1 := hw.small.count1
        have hcn2 := hw.small.cap1
        have HCB := Lib.hid (show 0 ≤ cnt ∧ cnt ≤ 2000 from ⟨by omega, by omega⟩)
        have HS := Lib.hid hs
        have HW := Lib.hid hw
        have HAA := Lib.hid hA
        have Hm := Lib.hid hm
        have FM := Lib.hid fm
        have HRR := Lib.hid r1
        have HCNT := Lib.hid hcnt
        have HNV := Lib.hid (HN.out.cells HX2.out.cells)
        clear ht hs hw hA hm fm r1 hcnt hcn0 hcn1 hcn2
        go_wp2_with fail
        refine (sit_plain2 HS.out HW.out HAA.out HRR.out Hm.out.symm (z := 0) rfl).mono ?_
        rintro e w5 ⟨a5, ac5, k5, kc5, gp5, g5, rfl, hr5, hs5, hc5, hp5, hl5⟩
        have HS5 := Lib.hid hs5
        have HR5 := Lib.hid hr5
        have HP5 := Lib.hid hp5
        have HC5 := Lib.hid hc5
        have HL5 := Lib.hid (show ∀ q y, gp5.cell? q = some y → q.block ≠ w.heap.size from fun q y hq => by have h1 := hl5 q y hq; have h2 := HBZ2.out; have h3 := HS.out.before.size; omega)
        clear hs5 hr5 hc5 hp5 hl5
        go_wp2_with fail
        refine (sit_count' HS5.out HCNT.out).mono ?_
        rintro e w6 ⟨rfl, hs6⟩
        have xm := (Ext.refl w6).alloc (.cells #[.int .i64 m.tag, .slice a5 m.attrs.length ac5, .string m.text, .slice k5 m.kids.length kc5] 30)
        have bM := heap_alloc_new w6 (.cells #[.int .i64 m.tag, .slice a5 m.attrs.length ac5, .string m.text, .slice k5 m.kids.length kc5] 30)
        obtain ⟨g7, hs7, hc7, hn7⟩ := hs6.grow xm
        have HMB := Lib.hid (show w6.heap.size ≠ w.heap.size by have h1 := hs6.before.size; have h2 := HBZ2.out; omega)
        have HBM := Lib.hid (Box4.of bM (Nat.le_refl _) hn7)
        have HP7 := Lib.hid (show Cells gp5 g7 from fun q y hq => hc7 _ _ (HP5.out _ _ hq))
        have HNV7 := Lib.hid (HNV.out.cells fun q y hq => hc7 _ _ (HC5.out _ _ hq))
        have HS7 := Lib.hid hs7
        clear xm bM hs7 hc7 hn7 hs6
        go_upto_region 7 with fail
        obtain ⟨wc, hwc⟩ : ∃ wc : World, wc = w6.alloc (.cells #[.int .i64 m.tag, .slice a5 m.attrs.length ac5, .string m.text, .slice k5 m.kids.length kc5] 30) := ⟨_, rfl⟩
        rw [← hwc] at HS7 ⊢
        clear hwc
        have hb7 := HS7.out.before.block HB2.out
        have c0 := cellOf hb7 (i := 0) (v := .int .i64 n.tag) rfl
        have c1 := cellOf hb7 (i := 1) (v := .slice aa n.attrs.length acap) rfl
        have c2 := cellOf hb7 (i := 2) (v := .string n.text) rfl
        have c3 := cellOf hb7 (i := 3) (v := .slice ka n.kids.length kcap) rfl
        clear hb7
        go_wp2_with fail
        refine (sit_graft HS7.out HW.out HAA.out par at' HNV7.out (PN.light_short n HLT.out) (by have := HSZ.out; omega)).mono ?_
        clear c0 c1 c2 c3
        rintro e w8 (⟨er, her, rfl, hs8⟩ | ⟨p', a', T1, T2, T3, d1, d2, d3, i, nd, pd, kd, rfl, rfl, hL, rfl, hs8⟩)
        · have HR8 := Lib.hid (HR5.out.cells HP7.out)
          have hk8 := hs8.box HBM.out
          have HS8 := Lib.hid (hs8.ext ((Ext.refl _).drew))
          have hc0 := HCB.out
          clear hs8
          go_upto_region 9 with fail
          go_region_held3 (fun w' => w'.cell? ⟨w6.heap.size, 0, none⟩ = some (.int .i64 m.tag) ∧ w'.cell? ⟨w6.heap.size, 1, none⟩ = some (.slice a5 m.attrs.length ac5) ∧ w'.cell? ⟨w6.heap.size, 2, none⟩ = some (.string m.text) ∧ w'.cell? ⟨w6.heap.size, 3, none⟩ = some (.slice k5 m.kids.length kc5))
            (first | exact hkeep | exact hk8 | go_keep)
            (first
            | (go_at_call 16; refine (awake_any _).mono ?_; rintro e w24 ⟨rfl, hx24⟩; have hkeep := (HS23.out.ext hx24).box HB22.out)
            | (go_at_call 26; refine (sit_sameNode HS22.out FM.out HR22.out HM22.out).mono ?_; rintro e w23 ⟨rfl, hs23⟩; have hkeep := hs23.box HB22.out; have HS23 := Lib.hid hs23; clear hs23)
            | (go_at_call 18; refine (sit_plain HS21.out HW.out HAA.out HRR.out Hm.out.symm (z := 0) rfl).mono ?_; rintro e w22 ⟨a20, ac20, k20, kc20, g22, rfl, hr20, hs22, hc20⟩; have hkeep := hs22.box (HBM.out.cells hc20); have HS22 := Lib.hid hs22; have HR22 := Lib.hid hr20; have HM22 := Lib.hid (HR8.out.cells hc20); have HB22 := Lib.hid (HBM.out.cells hc20); clear hs22 hr20 hc20)
            | (go_at_call 19; refine (sit_count' HS8.out HCNT.out).mono ?_; rintro e w21 ⟨rfl, hs21⟩; have hkeep := hs21.box HBM.out; have HS21 := Lib.hid hs21; clear hs21))
          go_wp2_with fail
          go_ret
          exact ⟨rfl, HX2.out.trans (HS23.out.before.trans hx24)⟩
        · have hb8 := hs8.before.block HB2.out
          have c0 := cellOf hb8 (i := 0) (v := .int .i64 n.tag) rfl
          have c1 := cellOf hb8 (i := 1) (v := .slice aa n.attrs.length acap) rfl
          have c2 := cellOf hb8 (i := 2) (v := .string n.text) rfl
          have c3 := cellOf hb8 (i := 3) (v := .slice ka n.kids.length kcap) rfl
          have HS8 := Lib.hid hs8
          have HLW := Lib.hid hL
          clear hb8 hs8 hL
          go_wp2_with fail
          refine (sit_anew HS8.out HLT.out (by have := HSZ.out; omega) HNV7.out).mono ?_
          clear c0 c1 c2 c3
          rintro e w9 ⟨a9, ac9, k9, kc9, gp9, g9, rfl, hr9, hs9, hc9, hp9, hl9⟩
          have hb9 := hs9.before.block HB2.out
          have c0 := cellOf hb9 (i := 0) (v := .int .i64 n.tag) rfl
          have c1 := cellOf hb9 (i := 1) (v := .slice aa n.attrs.length acap) rfl
          have c2 := cellOf hb9 (i := 2) (v := .string n.text) rfl
          have c3 := cellOf hb9 (i := 3) (v := .slice ka n.kids.length kcap) rfl
          have f0 := freeOf hb9 0
          have f1 := freeOf hb9 1
          have f2 := freeOf hb9 2
          have f3 := freeOf hb9 3
          obtain ⟨N, hN⟩ : ∃ N, N = n.anew := ⟨_, rfl⟩
          rw [← hN] at hr9 ⊢
          have HNN := Lib.hid hN
          clear hN
          obtain ⟨g10, hs10, ho10, hbx10⟩ := hs9.poke HX2.out (Nat.le_refl w.heap.size) HBZ2.out hb9 (.int .i64 N.tag) (.slice a9 N.attrs.length ac9) (.string N.text) (.slice k9 N.kids.length kc9)
          have HR10 := Lib.hid (hr9.cells fun q y hq => ho10 q y (hp9 q y hq) (by have h1 := hl9 q y hq; have h2 := HBZ2.out; have h3 := HS8.out.before.size; omega))
          have HM10 := Lib.hid (HR5.out.cells fun q y hq => ho10 q y (hc9 _ _ (HP7.out q y hq)) (HL5.out q y hq))
          have hbm := HBM.out
          have HBM10 := Lib.hid (show Box4 g10 w6.heap.size (.int .i64 m.tag) (.slice a5 m.attrs.length ac5) (.string m.text) (.slice k5 m.kids.length kc5) from
            ⟨ho10 _ _ (hc9 _ _ hbm.1) HMB.out, ho10 _ _ (hc9 _ _ hbm.2.1) HMB.out, ho10 _ _ (hc9 _ _ hbm.2.2.1) HMB.out, ho10 _ _ (hc9 _ _ hbm.2.2.2) HMB.out⟩)
          have HBX := Lib.hid hbx10
          have HS10 := Lib.hid hs10
          clear hb9 hr9 hs9 hc9 hp9 hl9 hs10 ho10 hbx10 hbm
          go_upto_region 11 with fail
          obtain ⟨wd, hwd⟩ : ∃ wd : World, wd = put4 w9 w.heap.size 0 (.int .i64 N.tag) (.slice a9 N.attrs.length ac9) (.string N.text) (.slice k9 N.kids.length kc9) := ⟨_, rfl⟩
          have hwd' := hwd
          unfold put4 at hwd'
          simp only [Nat.zero_add] at hwd'
          rw [← hwd] at HS10
          rw [← hwd']
          clear hwd hwd' c0 c1 c2 c3 f0 f1 f2 f3
          have hne := HLW.out.ne
          obtain ⟨r3, hr3, _, _⟩ := HLW.out.wf3.root
          have hm3 : T3.plain ((0 : Nat) : Int) = m := HLW.out.plain3.trans Hm.out.symm
          have hc3 : T3.count = cnt := HLW.out.count3.trans HCNT.out
          obtain ⟨sz, hsz⟩ : ∃ sz : Int, (N.size : Int) = sz := ⟨_, rfl⟩
          have hNs : N.size = n.size := by rw [HNN.out, PN.anew_size]
          have hc1 : T1.count = cnt + sz := by rw [HLW.out.count1, HCNT.out, ← hsz, hNs]
          have hsb : 0 ≤ sz ∧ sz ≤ 2000 := by rw [← hsz, hNs]; have := HSZ.out; omega
          have hcb := HCB.out
          have hsum : IntKind.i64.wrap (cnt + sz) = cnt + sz := IntWalk.i64_in _ (by omega)
          have FN := Lib.hid (show N.fair = true from HNN.out ▸ PN.anew_fair n (PN.light_fair n HLT.out))
          have HNS := Lib.hid (show N.size ≤ 100000 by rw [hNs]; have := HSZ.out; omega)
          have HSZ' := Lib.hid hsz
          have HC1 := Lib.hid hc1
          have HC3 := Lib.hid hc3
          have HM3 := Lib.hid hm3
          have HR3 := Lib.hid hr3
          have HNE := Lib.hid hne
          clear hne hr3 hm3 hc3 hsz hNs hc1
          have HS11 := Lib.hid (HS10.out.ext ((Ext.refl _).drew))
          have hk11 := HS10.out.box HBX.out
          go_region_held3 (fun w' => w'.cell? ⟨w.heap.size, 0, none⟩ = some (.int .i64 N.tag) ∧ w'.cell? ⟨w.heap.size, 1, none⟩ = some (.slice a9 N.attrs.length ac9) ∧ w'.cell? ⟨w.heap.size, 2, none⟩ = some (.string N.text) ∧ w'.cell? ⟨w.heap.size, 3, none⟩ = some (.slice k9 N.kids.length kc9))
            (first | exact hkeep | exact hk11 | go_keep)
            (first
            | (go_at_call 35; refine (sit_index HS16.out HLW.out.wf1 HLW.out.node1 HLW.out.par1 HLW.out.up HLW.out.pos).mono ?_; rintro e w17 ⟨rfl, hs17⟩; have hkeep := hs17.box HBX12.out; have HS17 := Lib.hid hs17; clear hs17)
            | (go_at_call 34; refine (sit_parent' HS15.out (Tr.get_of HLW.out.node1) HLW.out.up).mono ?_; rintro e w16 ⟨rfl, hs16⟩; have hkeep := hs16.box HBX12.out; have HS16 := Lib.hid hs16; clear hs16)
            | (go_at_call 33; refine (sit_size HS14.out HNS.out HN12.out HSZ'.out).mono ?_; rintro e w15 ⟨rfl, hs15⟩; have hkeep := hs15.box HBX12.out; have HS15 := Lib.hid hs15; clear hs15)
            | (go_at_call 19; refine (sit_count' HS13.out HC1.out).mono ?_; rintro e w14 ⟨rfl, hs14⟩; have hkeep := hs14.box HBX12.out; have HS14 := Lib.hid hs14; clear hs14)
            | (go_at_call 26; refine (sit_sameNode HS12.out FN.out HR12.out HN12.out).mono ?_; rintro e w13 ⟨rfl, hs13⟩; have hkeep := hs13.box HBX12.out; have HS13 := Lib.hid hs13; clear hs13)
            | (go_at_call 18; refine (sit_plain HS11.out HLW.out.wf1 HLW.out.ok1 HLW.out.node1 (HLW.out.plain1.trans HNN.out.symm) rfl).mono ?_; rintro e w12 ⟨a12, ac12, k12, kc12, g12, rfl, hr12, hs12, hc12⟩; have hkeep := hs12.box (HBX.out.cells hc12); have HS12 := Lib.hid hs12; have HR12 := Lib.hid hr12; have HN12 := Lib.hid (HR10.out.cells hc12); have HM12 := Lib.hid (HM10.out.cells hc12); have HBX12 := Lib.hid (HBX.out.cells hc12); have HBM12 := Lib.hid (HBM10.out.cells hc12); clear hs12 hr12 hc12))
          go_upto_region 13 with fail
          clear hk11
          have HS18 := Lib.hid (HS17.out.ext ((Ext.refl _).drew))
          have hk18 := HS17.out.box HBX12.out
          go_region_held3 (fun w' => w'.cell? ⟨w.heap.size, 0, none⟩ = some (.int .i64 N.tag) ∧ w'.cell? ⟨w.heap.size, 1, none⟩ = some (.slice a9 N.attrs.length ac9) ∧ w'.cell? ⟨w.heap.size, 2, none⟩ = some (.string N.text) ∧ w'.cell? ⟨w.heap.size, 3, none⟩ = some (.slice k9 N.kids.length kc9))
            (first | exact hkeep | exact hk18 | go_keep)
            (first
            | (go_at_call 25; refine (sit_drop HS22.out HLW.out.wf2 HLW.out.node2 HNE.out HLW.out.root2 HLW.out.rid).mono ?_; rintro e w23 ⟨rfl, hs23⟩; have hkeep := hs23.box HBX21.out; have HS23 := Lib.hid hs23; clear hs23)
            | (go_at_call 26; refine (sit_sameNode HS21.out FN.out HR21.out HN21.out).mono ?_; rintro e w22 ⟨rfl, hs22⟩; have hkeep := hs22.box HBX21.out; have HS22 := Lib.hid hs22; clear hs22)
            | (go_at_call 18; refine (sit_plain HS20.out HLW.out.wf2 HLW.out.ok2 HLW.out.node2 (HLW.out.plain2.trans HNN.out.symm) rfl).mono ?_; rintro e w21 ⟨a21, ac21, k21, kc21, g21, rfl, hr21, hs21, hc21⟩; have hkeep := hs21.box (HBX12.out.cells hc21); have HS21 := Lib.hid hs21; have HR21 := Lib.hid hr21; have HN21 := Lib.hid (HN12.out.cells hc21); have HM21 := Lib.hid (HM12.out.cells hc21); have HBX21 := Lib.hid (HBX12.out.cells hc21); have HBM21 := Lib.hid (HBM12.out.cells hc21); clear hs21 hr21 hc21)
            | (go_at_call 34; refine (sit_parent' HS19.out (Tr.get_of HLW.out.node2) HLW.out.root2).mono ?_; rintro e w20 ⟨rfl, hs20⟩; have hkeep := hs20.box HBX12.out; have HS20 := Lib.hid hs20; clear hs20)
            | (go_at_call 22; refine (sit_remove HS18.out HLW.out.wf1 HLW.out.par1 HLW.out.node1 HLW.out.up HLW.out.off).mono ?_; rintro e w19 ⟨rfl, hs19⟩; have hkeep := hs19.box HBX12.out; have HS19 := Lib.hid hs19; clear hs19))
          go_upto_region 15 with fail
          clear hk18
          have HS30 := Lib.hid (HS23.out.ext ((Ext.refl _).drew))
          have hk30 := HS23.out.box HBM21.out
          go_region_held3 (fun w' => w'.cell? ⟨w6.heap.size, 0, none⟩ = some (.int .i64 m.tag) ∧ w'.cell? ⟨w6.heap.size, 1, none⟩ = some (.slice a5 m.attrs.length ac5) ∧ w'.cell? ⟨w6.heap.size, 2, none⟩ = some (.string m.text) ∧ w'.cell? ⟨w6.heap.size, 3, none⟩ = some (.slice k5 m.kids.length kc5))
            (first | exact hkeep | exact hk30 | go_keep)
            (first
            | (go_at_call 16; refine (awake_any _).mono ?_; rintro e w35 ⟨rfl, hx35⟩; have hkeep := (HS34.out.ext hx35).box HB33.out)
            | (go_at_call 26; refine (sit_sameNode HS33.out FM.out HR33.out HM33.out).mono ?_; rintro e w34 ⟨rfl, hs34⟩; have hkeep := hs34.box HB33.out; have HS34 := Lib.hid hs34; clear hs34)
            | (go_at_call 18; refine (sit_plain HS32.out HLW.out.wf3 HLW.out.ok3 HR3.out HM3.out (z := 0) rfl).mono ?_; rintro e w33 ⟨a33, ac33, k33, kc33, g33, rfl, hr33, hs33, hc33⟩; have hkeep := hs33.box (HBM21.out.cells hc33); have HS33 := Lib.hid hs33; have HR33 := Lib.hid hr33; have HM33 := Lib.hid (HM21.out.cells hc33); have HB33 := Lib.hid (HBM21.out.cells hc33); clear hs33 hr33 hc33)
            | (go_at_call 19; refine (sit_count' HS31.out HC3.out).mono ?_; rintro e w32 ⟨rfl, hs32⟩; have hkeep := hs32.box HBM21.out; have HS32 := Lib.hid hs32; clear hs32)
            | (go_at_call 27; refine (sit_has' HS30.out HLW.out.none3).mono ?_; rintro e w31 ⟨rfl, hs31⟩; have hkeep := hs31.box HBM21.out; have HS31 := Lib.hid hs31; clear hs31))
          go_wp2_with fail
          go_ret
          exact ⟨rfl, HS34.out.before.trans hx35⟩
end Go.Proofs.Ytiglflmjidikpaa
