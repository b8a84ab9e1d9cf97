/- lex.All's inner function: text. Conditions: at most 10^6 bytes, 10^5 tokens. -/
import Derived.Test.YtdafdoodegpdhaaDoorLZ
namespace Go.Proofs.YtdafdoodegpdhaaDoor
open Go Go.RowKit Go.BigFrame We
set_option linter.unusedVariables false
set_option linter.unusedSimpArgs false

def Nb (lb ob sb rb : Nat) : Nat → Prop := fun g => g = lb ∨ g = ob ∨ g = sb ∨ g = rb
/-- what lex.All keeps: tokens, whether a text is open, the text -/
structure AS (B lb ob sb rb : Nat) (s : ByteArray) (op : Bool) (L : List TkA) (w : World) : Prop where
  tl : ∃ lv gb, TL B (Nb lb ob sb rb) lb L lv gb w
  ob : w.heap[ob]? = some (.cells #[.bool op] 4 (0, 0))
  sb : w.heap[sb]? = some (.cells #[.string s] 9 (0, 0))
structure Dist (B lb ob sb rb : Nat) : Prop where
  b : B ≤ sb
  sl : sb < lb
  lr : lb < rb
  ro : rb < ob
/-- what is changed: new memory, but for the reader and the text -/
abbrev Ch (B rb sb : Nat) : Nat → Prop := fun g => B ≤ g ∧ g ≠ rb ∧ g ≠ sb
def RText (B lb ob sb rb : Nat) (s : ByteArray) (L : List TkA) (w : World) (e : Ending) (w' : World) : Prop := e = .returned (.tuple #[]) ∧ AS B lb ob sb rb s true L w' ∧ Mv (Ch B rb sb) w w'
/-- a piece of text, at a text's end -/
def Tk.more (t : Tk) (pc : List UInt8) (hi : Nat) : Tk := { t with text := t.text ++ pc, hi := hi }
theorem snoc_get (D : List TkA) (p : TkA) : (D ++ [p])[D.length]? = some p := by simp
theorem snoc_set (D : List TkA) (p q : TkA) : (D ++ [p]).set D.length q = D ++ [q] := by simp
set_option maxHeartbeats 2000000 in
set_option maxRecDepth 100000 in
theorem text_more (B lb ob sb rb : Nat) (s : ByteArray) (D : List TkA) (p : TkA) (w : World) (hs : s.size ≤ 1000000) (hD : D.length ≤ 1000000) (hd : Dist B lb ob sb rb) (h : AS B lb ob sb rb s true (D ++ [p]) w) (htz : p.1.text.length ≤ 1000000) (k1 k2 : Nat) (hk : k1 ≤ k2) (hk2 : k2 ≤ s.size) (pc : List UInt8) (hpc : s.extract k1 k2 = bs pc) :
    Calls Tryd.prog 43 #[.int .i64 k1, .int .i64 k2, .pointer (some ⟨ob, 0, none⟩), .pointer (some ⟨lb, 0, none⟩), .pointer (some ⟨sb, 0, none⟩)] w (RText B lb ob sb rb s (D ++ [(p.1.more pc k2, p.2)]) w) := by
  obtain ⟨⟨lv, gb, TLW⟩, OBW, SBW⟩ := h
  have c2 := cellOf OBW (i := 0) (v := .bool true) rfl
  have HPC := Lib.hid hpc
  have HTZ := Lib.hid htz
  have HD := Lib.hid hd
  clear hpc htz hd
  go_enter Tryd.func43, Tryd.ntmps43
  go_upto_region 3 with fail
  clear c2
  obtain ⟨g, cap, cur, hgb, hBg, hNg, hlv, hrow, hrl, hq1, hq2, hrt⟩ := TLW.some_ (by simp)
  subst hlv
  subst hgb
  have htx := row_cell (f := 2) hrow hrt (snoc_get D p) (v := .string (bs p.1.text)) rfl
  have hhi := row_cell (f := 6) hrow hrt (snoc_get D p) (v := .int .i64 (p.1.hi : Int)) rfl
  have hff2 := freeOf hrow (D.length * 7 + 2)
  have hff6 := freeOf hrow (D.length * 7 + 6)
  have hlen1 : (D ++ [p]).length = D.length + 1 := by simp
  have c3 := cellOf TLW.box (i := 0) (v := .slice (some ⟨g, 0, none⟩) (D.length + 1) cap) (by rw [← hlen1]; rfl)
  have hcapl : D.length + 1 ≤ cap := by rw [← hlen1]; exact hrl
  obtain ⟨d, hd⟩ : ∃ d, D.length = d := ⟨_, rfl⟩
  have HDD := Lib.hid hd
  have hd6 : d ≤ 1000000 := by omega
  rw [hd] at htx hhi hff2 hff6 c3 hcapl
  have TLH := Lib.hid TLW
  have OBH := Lib.hid OBW
  have SBH := Lib.hid SBW
  have c4 := cellOf SBW (i := 0) (v := .string s) rfl
  have HNG := Lib.hid hNg
  have gl : g ≠ lb := fun e => hNg (.inl e)
  have go' : g ≠ ob := fun e => hNg (.inr (.inl e))
  have gs : g ≠ sb := fun e => hNg (.inr (.inr (.inl e)))
  have gr : g ≠ rb := fun e => hNg (.inr (.inr (.inr e)))
  clear hrow hrl hrt hlen1 hd TLW OBW SBW hNg hq1 hq2
  have hwd : IntKind.i64.wrap ((d : Int) + 1 - 1) = (d : Int) := by rw [IntWalk.i64_in _ (by omega)]; omega
  have hwd0 : (0 : Int) ≤ (d : Int) := by omega
  have hwd1 : (d : Int) < (d : Int) + 1 := by omega
  have htn : (d : Int).toNat = d := by omega
  go_upto_region 4 with fail
  clear c3 hwd hwd0 hwd1 htn
  obtain ⟨pt, hpt⟩ : ∃ pt : ByteArray, bs p.1.text = pt := ⟨_, rfl⟩
  have HPT := Lib.hid hpt
  rw [hpt] at htx
  clear hpt
  have hptz : pt.size ≤ 1000000 := by rw [← HPT.out, bs_size]; exact HTZ.out
  refine wp_region_E (S := fun w' => w'.cell? ⟨g, d * 7 + 2, none⟩ = some (.string pt) ∧ w'.cell? ⟨sb, 0, none⟩ = some (.string s)) (n := 11) (by kernel_rfl) ?_
  have hS : (w).drew.cell? ⟨g, d * 7 + 2, none⟩ = some (.string pt) ∧ (w).drew.cell? ⟨sb, 0, none⟩ = some (.string s) := ⟨htx, c4⟩
  show wpE _ _ _ _ _ 11 12 (Array.replicate 12 false) _ _
  refine wpE_take (i := 0) (v := .pointer (some ⟨g, d * 7, none⟩)) (o := { dst := some 20, op := _, type := _, pos := _, after := _, guard := none }) rfl (by kernel_rfl) (by kernel_rfl) (by kernel_rfl) (by kernel_rfl) (fun _ _ _ h => h) (Or.inl ⟨by rfl, fun w' hSw => ?_⟩) hS ?_
  · (obtain ⟨s1, s2⟩ := hSw; clear hS; go_simp)
  try simp only [Act.put, List.setIfInBounds_toArray, List.set_cons_zero, List.set_cons_succ]
  refine wpE_take (i := 1) (v := .pointer (some ⟨g, d * 7, none⟩)) (o := { dst := some 21, op := _, type := _, pos := _, after := _, guard := none }) rfl (by kernel_rfl) (by kernel_rfl) (by kernel_rfl) (by kernel_rfl) (fun _ _ _ h => h) (Or.inl ⟨by rfl, fun w' hSw => ?_⟩) hS ?_
  · (obtain ⟨s1, s2⟩ := hSw; clear hS; go_simp)
  try simp only [Act.put, List.setIfInBounds_toArray, List.set_cons_zero, List.set_cons_succ]
  refine wpE_take (i := 2) (v := .pointer (some ⟨g, d * 7 + 2, none⟩)) (o := { dst := some 22, op := _, type := _, pos := _, after := _, guard := none }) rfl (by kernel_rfl) (by kernel_rfl) (by kernel_rfl) (by kernel_rfl) (fun _ _ _ h => h) (Or.inl ⟨by rfl, fun w' hSw => ?_⟩) hS ?_
  · (obtain ⟨s1, s2⟩ := hSw; clear hS; go_simp)
  try simp only [Act.put, List.setIfInBounds_toArray, List.set_cons_zero, List.set_cons_succ]
  refine wpE_take (i := 3) (v := .string pt) (o := { dst := some 23, op := _, type := _, pos := _, after := _, guard := none }) rfl (by kernel_rfl) (by kernel_rfl) (by kernel_rfl) (by kernel_rfl) (fun _ _ _ h => h) (Or.inl ⟨by rfl, fun w' hSw => ?_⟩) hS ?_
  · (obtain ⟨s1, s2⟩ := hSw; clear hS; go_simp)
  try simp only [Act.put, List.setIfInBounds_toArray, List.set_cons_zero, List.set_cons_succ]
  refine wpE_take (i := 4) (v := .string s) (o := { dst := some 24, op := _, type := _, pos := _, after := _, guard := none }) rfl (by kernel_rfl) (by kernel_rfl) (by kernel_rfl) (by kernel_rfl) (fun _ _ _ h => h) (Or.inl ⟨by rfl, fun w' hSw => ?_⟩) hS ?_
  · (obtain ⟨s1, s2⟩ := hSw; clear hS; go_simp)
  try simp only [Act.put, List.setIfInBounds_toArray, List.set_cons_zero, List.set_cons_succ]
  refine wpE_take (i := 5) (v := .int .i64 k1) (o := { dst := some 25, op := _, type := _, pos := _, after := _, guard := none }) rfl (by kernel_rfl) (by kernel_rfl) (by kernel_rfl) (by kernel_rfl) (fun _ _ _ h => h) (Or.inl ⟨by rfl, fun w' hSw => ?_⟩) hS ?_
  · (obtain ⟨s1, s2⟩ := hSw; clear hS; go_simp)
  try simp only [Act.put, List.setIfInBounds_toArray, List.set_cons_zero, List.set_cons_succ]
  refine wpE_take (i := 6) (v := .int .i64 k2) (o := { dst := some 26, op := _, type := _, pos := _, after := _, guard := none }) rfl (by kernel_rfl) (by kernel_rfl) (by kernel_rfl) (by kernel_rfl) (fun _ _ _ h => h) (Or.inl ⟨by rfl, fun w' hSw => ?_⟩) hS ?_
  · (obtain ⟨s1, s2⟩ := hSw; clear hS; go_simp)
  try simp only [Act.put, List.setIfInBounds_toArray, List.set_cons_zero, List.set_cons_succ]
  refine wpE_take (i := 7) (v := .string (s.extract k1 k2)) (o := { dst := some 27, op := _, type := _, pos := _, after := _, guard := none }) rfl (by kernel_rfl) (by kernel_rfl) (by kernel_rfl) (by kernel_rfl) (fun _ _ _ h => h) (Or.inl ⟨by rfl, fun w' hSw => ?_⟩) hS ?_
  · (obtain ⟨s1, s2⟩ := hSw; clear hS; go_simp)
  try simp only [Act.put, List.setIfInBounds_toArray, List.set_cons_zero, List.set_cons_succ]
  refine wpE_take (i := 8) (v := .string (pt ++ s.extract k1 k2)) (o := { dst := some 28, op := _, type := _, pos := _, after := _, guard := none }) rfl (by kernel_rfl) (by kernel_rfl) (by kernel_rfl) (by kernel_rfl) (fun _ _ _ h => h) (Or.inl ⟨by rfl, fun w' hSw => ?_⟩) hS ?_
  · (obtain ⟨s1, s2⟩ := hSw; clear hS; go_simp; omega)
  try simp only [Act.put, List.setIfInBounds_toArray, List.set_cons_zero, List.set_cons_succ]
  obtain ⟨wd, hwd⟩ : ∃ wd : World, wd = (w).drew := ⟨_, rfl⟩
  have xd : Ext (w) wd := by rw [hwd]; exact (Ext.refl _).drew
  rw [← hwd] at hS ⊢
  clear hwd
  refine wpE_one (i := 9) (o := { dst := some 29, op := _, type := _, pos := _, after := _, guard := none }) (by kernel_rfl) rfl (fun K hK => ?_)
  go_simp
  refine hK.out _ _ (.inr hS) ?_
  clear hK K
  try simp only [Act.put, List.setIfInBounds_toArray, List.set_cons_zero, List.set_cons_succ]
  refine wpE_one (i := 10) (o := { dst := some 30, op := _, type := _, pos := _, after := _, guard := none }) (by kernel_rfl) rfl (fun K hK => ?_)
  go_simp
  refine hK.out _ _ (.inr hS) ?_
  clear hK K
  try simp only [Act.put, List.setIfInBounds_toArray, List.set_cons_zero, List.set_cons_succ]
  have TLD := TLH.out.ext xd
  have OBD := xd.block OBH.out
  have SBD := xd.block SBH.out
  have ff2 := xd.free (cell_lt htx) hff2
  have ff6 := xd.free (cell_lt htx) hff6
  have tx := hS.1
  refine wpE_one (i := 11) (o := { dst := none, op := _, type := _, pos := _, after := _, guard := none }) (by kernel_rfl) rfl (fun K hK => ?_)
  go_simp
  refine hK.out _ _ (.inl rfl) ?_
  clear hK K hS
  refine wpE_done (by kernel_rfl) ?_
  have hgetd : (D ++ [p])[d]? = some p := by rw [← HDD.out]; exact snoc_get D p
  have hadd : pt ++ s.extract k1 k2 = bs (p.1.text ++ pc) := by rw [← HPT.out, HPC.out, bs_add]
  have TL1 := TLD.set (i := d) (f := 2) (p := p) (p' := ({ p.1 with text := p.1.text ++ pc }, p.2)) (v := .string (pt ++ s.extract k1 k2)) hgetd (by decide) (by rw [hadd]; rfl) rfl rfl (.inl rfl) rfl
  have hget1 : ((D ++ [p]).set d ({ p.1 with text := p.1.text ++ pc }, p.2))[d]? = some ({ p.1 with text := p.1.text ++ pc }, p.2) := by rw [← HDD.out, snoc_set]; exact snoc_get D _
  have TL2 := TL1.set (i := d) (f := 6) (p' := (p.1.more pc k2, p.2)) (v := .int .i64 (k2 : Int)) hget1 (by decide) rfl rfl rfl (.inl rfl) rfl
  rw [← HDD.out, snoc_set, snoc_set, HDD.out] at TL2
  have mm1 : Mv (· = g) wd (wd.setCell ⟨g, d * 7 + 2, none⟩ (.string (pt ++ s.extract k1 k2))) := Mv.setRb (Mv.refl _ wd) _
  have mm2 : Mv (· = g) wd ((wd.setCell ⟨g, d * 7 + 2, none⟩ (.string (pt ++ s.extract k1 k2))).setCell ⟨g, d * 7 + 6, none⟩ (.int .i64 (k2 : Int))) := Mv.setRb mm1 _
  have FIN : Hid (AS B lb ob sb rb s true (D ++ [(p.1.more pc k2, p.2)]) ((wd.setCell ⟨g, d * 7 + 2, none⟩ (.string (pt ++ s.extract k1 k2))).setCell ⟨g, d * 7 + 6, none⟩ (.int .i64 (k2 : Int)))) := Lib.hid ⟨⟨_, _, TL2⟩, mm2.block OBD (Ne.symm go'), mm2.block SBD (Ne.symm gs)⟩
  have MFIN := Lib.hid (Mv.after xd (mm2.imp (S' := Ch B rb sb) fun x _ hx => by rw [(show x = g from hx)]; exact ⟨hBg, gr, gs⟩))
  have hh6 := xd.cell hhi
  clear hgetd hadd TL1 hget1 TL2 mm1 mm2 TLD OBD SBD
  go_wp2_with fail
  go_end0
  exact ⟨rfl, FIN.out, MFIN.out⟩
set_option maxHeartbeats 2000000 in
set_option maxRecDepth 100000 in
theorem text_new (B lb ob sb rb : Nat) (s : ByteArray) (D : List TkA) (w : World) (hs : s.size ≤ 1000000) (hD : D.length ≤ 1000000) (hd : Dist B lb ob sb rb) (hrb : rb < w.heap.size) (h : AS B lb ob sb rb s false D w) (k1 k2 : Nat) (hk : k1 ≤ k2) (hk2 : k2 ≤ s.size) (pc : List UInt8) (hpc : s.extract k1 k2 = bs pc) :
    Calls Tryd.prog 43 #[.int .i64 k1, .int .i64 k2, .pointer (some ⟨ob, 0, none⟩), .pointer (some ⟨lb, 0, none⟩), .pointer (some ⟨sb, 0, none⟩)] w (RText B lb ob sb rb s (D ++ [(⟨1, [], pc, [], false, k1, k2⟩, .slice none 0 0)]) w) := by
  obtain ⟨⟨lv0, gb0, TL0⟩, OB0, SB0⟩ := h
  have hlb := (Array.getElem?_eq_some_iff.1 TL0.box).1
  have hob := (Array.getElem?_eq_some_iff.1 OB0).1
  have hsb := (Array.getElem?_eq_some_iff.1 SB0).1
  obtain ⟨d1, d2, d3, d4⟩ := hd
  have hHPC := Lib.hid hpc
  obtain ⟨a0, cap0, wB, hrun, hboxB, hmB, gb1, TLP⟩ := TL0.push hD (by rintro g (rfl | rfl | rfl | rfl) <;> assumption) (.inl rfl) (by omega) (⟨1, [], [], [], false, k1, 0⟩, .slice none 0 0) rfl ⟨rfl, .inl ⟨rfl, none, rfl⟩⟩ (cs := #[.int .i64 1, .string ⟨#[]⟩, .string ⟨#[]⟩, .slice none 0 0, .int .i64 0, .int .i64 k1, .int .i64 0]) rfl
  have nOb : ¬ gb0 = some ob := fun e => (TL0.blk ob e).2.2 (.inr (.inl rfl))
  have nSb : ¬ gb0 = some sb := fun e => (TL0.blk sb e).2.2 (.inr (.inr (.inl rfl)))
  have nLb : ¬ gb0 = some lb := fun e => (TL0.blk lb e).2.2 (.inl rfl)
  have nRb : ¬ gb0 = some rb := fun e => (TL0.blk rb e).2.2 (.inr (.inr (.inr rfl)))
  have OBB := hmB.block OB0 nOb
  have SBB := hmB.block SB0 nSb
  have mB : Mv (Ch B rb sb) w wB := hmB.imp fun x _ hx => ⟨(TL0.blk x hx).2.1, fun e => nRb (e ▸ hx), fun e => nSb (e ▸ hx)⟩
  have c2 := cellOf OB0 (i := 0) (v := .bool false) rfl
  have c3 := cellOf TL0.box (i := 0) (v := lv0) rfl
  have b3 := cellOf hboxB (i := 0) (v := lv0) rfl
  have g3 := freeOf hboxB 0
  have MB := Lib.hid mB
  have HRUN := Lib.hid hrun
  have HTLP := Lib.hid TLP
  have HBX := Lib.hid hboxB
  have HOBB := Lib.hid OBB
  have HSBB := Lib.hid SBB
  clear hpc hrun hmB TLP TL0 OB0 SB0 mB hboxB OBB SBB
  go_enter Tryd.func43, Tryd.ntmps43
  go_upto_region 2 with (at_builtin; refine wpList_append_run _ rfl _ _ 35 rfl _ _ rfl rfl _ _ HRUN.out ?_)
  have m1 : Mv (· = lb) wB (wB.setCell ⟨lb, 0, none⟩ (.slice a0 (D.length + 1) cap0)) := Mv.setRb (Mv.refl _ wB) _
  have OB1 := m1.block HOBB.out (show ¬ ob = lb by omega)
  have SB1 := m1.block HSBB.out (show ¬ sb = lb by omega)
  have M1 : Mv (Ch B rb sb) w (wB.setCell ⟨lb, 0, none⟩ (.slice a0 (D.length + 1) cap0)) := MB.out.trans (m1.imp fun x _ hx => by rw [(show x = lb from hx)]; exact ⟨by omega, by omega, by omega⟩)
  have TL1 := HTLP.out
  clear c2 c3 b3 g3
  obtain ⟨w2, hw2⟩ : ∃ w' : World, w' = wB.setCell ⟨lb, 0, none⟩ (.slice a0 (D.length + 1) cap0) := ⟨_, rfl⟩
  rw [← hw2] at OB1 SB1 M1 TL1 ⊢
  clear hw2 m1
  have c2 := cellOf OB1 (i := 0) (v := .bool false) rfl
  have f2 := freeOf OB1 0
  have m2 : Mv (· = ob) w2 (w2.setCell ⟨ob, 0, none⟩ (.bool true)) := Mv.setRb (Mv.refl _ w2) _
  have OBW := heap_setCell_same (i := 0) OB1 (.bool true)
  have SBW := m2.block SB1 (show ¬ sb = ob by omega)
  have M2 : Mv (Ch B rb sb) w (w2.setCell ⟨ob, 0, none⟩ (.bool true)) := M1.trans (m2.imp fun x _ hx => by rw [(show x = ob from hx)]; exact ⟨by omega, by omega, by omega⟩)
  have TLW := TL1.mv m2 (fun g hg => .inr (.inl hg)) (show ¬ lb = ob by omega)
  clear OB1 SB1 M1 TL1 m2
  go_upto_region 3 with fail
  obtain ⟨w3, hw3⟩ : ∃ w' : World, w' = w2.setCell ⟨ob, 0, none⟩ (.bool true) := ⟨_, rfl⟩
  rw [← hw3] at OBW SBW M2 TLW ⊢
  clear hw3 c2 f2
  have OBW : w3.heap[ob]? = some (.cells #[.bool true] 4 (0, 0)) := OBW
  have MW3 := Lib.hid M2
  clear M2
  obtain ⟨lv, hlv0⟩ : ∃ v : Value, v = .slice a0 (D.length + 1) cap0 := ⟨_, rfl⟩
  rw [← hlv0] at TLW
  clear hlv0
  obtain ⟨p, hp⟩ : ∃ p : TkA, p = (⟨1, [], [], [], false, k1, 0⟩, .slice none 0 0) := ⟨_, rfl⟩
  rw [← hp] at TLW
  have HTZ : Hid (p.1.text.length ≤ 1000000) := Lib.hid (by rw [hp]; exact Nat.zero_le _)
  have HPQ : Hid ((p.1.more pc k2, p.2) = (⟨1, [], pc, [], false, k1, k2⟩, .slice none 0 0)) := Lib.hid (by rw [hp]; rfl)
  have HPC := hHPC
  obtain ⟨gb, hgb1⟩ : ∃ g : Option Nat, g = gb1 := ⟨_, rfl⟩
  rw [← hgb1] at TLW
  clear hgb1 hp HTLP HRUN HBX HOBB HSBB MB nOb nSb nLb nRb hlb hob hsb
  obtain ⟨g, cap, cur, hgb, hBg, hNg, hlv, hrow, hrl, hq1, hq2, hrt⟩ := TLW.some_ (by simp)
  subst hlv
  subst hgb
  have htx := row_cell (f := 2) hrow hrt (snoc_get D p) (v := .string (bs p.1.text)) rfl
  have hhi := row_cell (f := 6) hrow hrt (snoc_get D p) (v := .int .i64 (p.1.hi : Int)) rfl
  have hff2 := freeOf hrow (D.length * 7 + 2)
  have hff6 := freeOf hrow (D.length * 7 + 6)
  have hlen1 : (D ++ [p]).length = D.length + 1 := by simp
  have c3 := cellOf TLW.box (i := 0) (v := .slice (some ⟨g, 0, none⟩) (D.length + 1) cap) (by rw [← hlen1]; rfl)
  have hcapl : D.length + 1 ≤ cap := by rw [← hlen1]; exact hrl
  obtain ⟨d, hd⟩ : ∃ d, D.length = d := ⟨_, rfl⟩
  have HDD := Lib.hid hd
  have hd6 : d ≤ 1000000 := by omega
  rw [hd] at htx hhi hff2 hff6 c3 hcapl
  have TLH := Lib.hid TLW
  have OBH := Lib.hid OBW
  have SBH := Lib.hid SBW
  have c4 := cellOf SBW (i := 0) (v := .string s) rfl
  have HNG := Lib.hid hNg
  have gl : g ≠ lb := fun e => hNg (.inl e)
  have go' : g ≠ ob := fun e => hNg (.inr (.inl e))
  have gs : g ≠ sb := fun e => hNg (.inr (.inr (.inl e)))
  have gr : g ≠ rb := fun e => hNg (.inr (.inr (.inr e)))
  clear hrow hrl hrt hlen1 hd TLW OBW SBW hNg hq1 hq2
  have hwd : IntKind.i64.wrap ((d : Int) + 1 - 1) = (d : Int) := by rw [IntWalk.i64_in _ (by omega)]; omega
  have hwd0 : (0 : Int) ≤ (d : Int) := by omega
  have hwd1 : (d : Int) < (d : Int) + 1 := by omega
  have htn : (d : Int).toNat = d := by omega
  go_upto_region 4 with fail
  clear c3 hwd hwd0 hwd1 htn
  obtain ⟨pt, hpt⟩ : ∃ pt : ByteArray, bs p.1.text = pt := ⟨_, rfl⟩
  have HPT := Lib.hid hpt
  rw [hpt] at htx
  clear hpt
  have hptz : pt.size ≤ 1000000 := by rw [← HPT.out, bs_size]; exact HTZ.out
  refine wp_region_E (S := fun w' => w'.cell? ⟨g, d * 7 + 2, none⟩ = some (.string pt) ∧ w'.cell? ⟨sb, 0, none⟩ = some (.string s)) (n := 11) (by kernel_rfl) ?_
  have hS : (w3).drew.cell? ⟨g, d * 7 + 2, none⟩ = some (.string pt) ∧ (w3).drew.cell? ⟨sb, 0, none⟩ = some (.string s) := ⟨htx, c4⟩
  show wpE _ _ _ _ _ 11 12 (Array.replicate 12 false) _ _
  refine wpE_take (i := 0) (v := .pointer (some ⟨g, d * 7, none⟩)) (o := { dst := some 20, op := _, type := _, pos := _, after := _, guard := none }) rfl (by kernel_rfl) (by kernel_rfl) (by kernel_rfl) (by kernel_rfl) (fun _ _ _ h => h) (Or.inl ⟨by rfl, fun w' hSw => ?_⟩) hS ?_
  · (obtain ⟨s1, s2⟩ := hSw; clear hS; go_simp)
  try simp only [Act.put, List.setIfInBounds_toArray, List.set_cons_zero, List.set_cons_succ]
  refine wpE_take (i := 1) (v := .pointer (some ⟨g, d * 7, none⟩)) (o := { dst := some 21, op := _, type := _, pos := _, after := _, guard := none }) rfl (by kernel_rfl) (by kernel_rfl) (by kernel_rfl) (by kernel_rfl) (fun _ _ _ h => h) (Or.inl ⟨by rfl, fun w' hSw => ?_⟩) hS ?_
  · (obtain ⟨s1, s2⟩ := hSw; clear hS; go_simp)
  try simp only [Act.put, List.setIfInBounds_toArray, List.set_cons_zero, List.set_cons_succ]
  refine wpE_take (i := 2) (v := .pointer (some ⟨g, d * 7 + 2, none⟩)) (o := { dst := some 22, op := _, type := _, pos := _, after := _, guard := none }) rfl (by kernel_rfl) (by kernel_rfl) (by kernel_rfl) (by kernel_rfl) (fun _ _ _ h => h) (Or.inl ⟨by rfl, fun w' hSw => ?_⟩) hS ?_
  · (obtain ⟨s1, s2⟩ := hSw; clear hS; go_simp)
  try simp only [Act.put, List.setIfInBounds_toArray, List.set_cons_zero, List.set_cons_succ]
  refine wpE_take (i := 3) (v := .string pt) (o := { dst := some 23, op := _, type := _, pos := _, after := _, guard := none }) rfl (by kernel_rfl) (by kernel_rfl) (by kernel_rfl) (by kernel_rfl) (fun _ _ _ h => h) (Or.inl ⟨by rfl, fun w' hSw => ?_⟩) hS ?_
  · (obtain ⟨s1, s2⟩ := hSw; clear hS; go_simp)
  try simp only [Act.put, List.setIfInBounds_toArray, List.set_cons_zero, List.set_cons_succ]
  refine wpE_take (i := 4) (v := .string s) (o := { dst := some 24, op := _, type := _, pos := _, after := _, guard := none }) rfl (by kernel_rfl) (by kernel_rfl) (by kernel_rfl) (by kernel_rfl) (fun _ _ _ h => h) (Or.inl ⟨by rfl, fun w' hSw => ?_⟩) hS ?_
  · (obtain ⟨s1, s2⟩ := hSw; clear hS; go_simp)
  try simp only [Act.put, List.setIfInBounds_toArray, List.set_cons_zero, List.set_cons_succ]
  refine wpE_take (i := 5) (v := .int .i64 k1) (o := { dst := some 25, op := _, type := _, pos := _, after := _, guard := none }) rfl (by kernel_rfl) (by kernel_rfl) (by kernel_rfl) (by kernel_rfl) (fun _ _ _ h => h) (Or.inl ⟨by rfl, fun w' hSw => ?_⟩) hS ?_
  · (obtain ⟨s1, s2⟩ := hSw; clear hS; go_simp)
  try simp only [Act.put, List.setIfInBounds_toArray, List.set_cons_zero, List.set_cons_succ]
  refine wpE_take (i := 6) (v := .int .i64 k2) (o := { dst := some 26, op := _, type := _, pos := _, after := _, guard := none }) rfl (by kernel_rfl) (by kernel_rfl) (by kernel_rfl) (by kernel_rfl) (fun _ _ _ h => h) (Or.inl ⟨by rfl, fun w' hSw => ?_⟩) hS ?_
  · (obtain ⟨s1, s2⟩ := hSw; clear hS; go_simp)
  try simp only [Act.put, List.setIfInBounds_toArray, List.set_cons_zero, List.set_cons_succ]
  refine wpE_take (i := 7) (v := .string (s.extract k1 k2)) (o := { dst := some 27, op := _, type := _, pos := _, after := _, guard := none }) rfl (by kernel_rfl) (by kernel_rfl) (by kernel_rfl) (by kernel_rfl) (fun _ _ _ h => h) (Or.inl ⟨by rfl, fun w' hSw => ?_⟩) hS ?_
  · (obtain ⟨s1, s2⟩ := hSw; clear hS; go_simp)
  try simp only [Act.put, List.setIfInBounds_toArray, List.set_cons_zero, List.set_cons_succ]
  refine wpE_take (i := 8) (v := .string (pt ++ s.extract k1 k2)) (o := { dst := some 28, op := _, type := _, pos := _, after := _, guard := none }) rfl (by kernel_rfl) (by kernel_rfl) (by kernel_rfl) (by kernel_rfl) (fun _ _ _ h => h) (Or.inl ⟨by rfl, fun w' hSw => ?_⟩) hS ?_
  · (obtain ⟨s1, s2⟩ := hSw; clear hS; go_simp; omega)
  try simp only [Act.put, List.setIfInBounds_toArray, List.set_cons_zero, List.set_cons_succ]
  obtain ⟨wd, hwd⟩ : ∃ wd : World, wd = (w3).drew := ⟨_, rfl⟩
  have xd : Ext (w3) wd := by rw [hwd]; exact (Ext.refl _).drew
  rw [← hwd] at hS ⊢
  clear hwd
  refine wpE_one (i := 9) (o := { dst := some 29, op := _, type := _, pos := _, after := _, guard := none }) (by kernel_rfl) rfl (fun K hK => ?_)
  go_simp
  refine hK.out _ _ (.inr hS) ?_
  clear hK K
  try simp only [Act.put, List.setIfInBounds_toArray, List.set_cons_zero, List.set_cons_succ]
  refine wpE_one (i := 10) (o := { dst := some 30, op := _, type := _, pos := _, after := _, guard := none }) (by kernel_rfl) rfl (fun K hK => ?_)
  go_simp
  refine hK.out _ _ (.inr hS) ?_
  clear hK K
  try simp only [Act.put, List.setIfInBounds_toArray, List.set_cons_zero, List.set_cons_succ]
  have TLD := TLH.out.ext xd
  have OBD := xd.block OBH.out
  have SBD := xd.block SBH.out
  have ff2 := xd.free (cell_lt htx) hff2
  have ff6 := xd.free (cell_lt htx) hff6
  have tx := hS.1
  refine wpE_one (i := 11) (o := { dst := none, op := _, type := _, pos := _, after := _, guard := none }) (by kernel_rfl) rfl (fun K hK => ?_)
  go_simp
  refine hK.out _ _ (.inl rfl) ?_
  clear hK K hS
  refine wpE_done (by kernel_rfl) ?_
  have hgetd : (D ++ [p])[d]? = some p := by rw [← HDD.out]; exact snoc_get D p
  have hadd : pt ++ s.extract k1 k2 = bs (p.1.text ++ pc) := by rw [← HPT.out, HPC.out, bs_add]
  have TL1 := TLD.set (i := d) (f := 2) (p := p) (p' := ({ p.1 with text := p.1.text ++ pc }, p.2)) (v := .string (pt ++ s.extract k1 k2)) hgetd (by decide) (by rw [hadd]; rfl) rfl rfl (.inl rfl) rfl
  have hget1 : ((D ++ [p]).set d ({ p.1 with text := p.1.text ++ pc }, p.2))[d]? = some ({ p.1 with text := p.1.text ++ pc }, p.2) := by rw [← HDD.out, snoc_set]; exact snoc_get D _
  have TL2 := TL1.set (i := d) (f := 6) (p' := (p.1.more pc k2, p.2)) (v := .int .i64 (k2 : Int)) hget1 (by decide) rfl rfl rfl (.inl rfl) rfl
  rw [← HDD.out, snoc_set, snoc_set, HDD.out] at TL2
  have mm1 : Mv (· = g) wd (wd.setCell ⟨g, d * 7 + 2, none⟩ (.string (pt ++ s.extract k1 k2))) := Mv.setRb (Mv.refl _ wd) _
  have mm2 : Mv (· = g) wd ((wd.setCell ⟨g, d * 7 + 2, none⟩ (.string (pt ++ s.extract k1 k2))).setCell ⟨g, d * 7 + 6, none⟩ (.int .i64 (k2 : Int))) := Mv.setRb mm1 _
  have FIN : Hid (AS B lb ob sb rb s true (D ++ [(p.1.more pc k2, p.2)]) ((wd.setCell ⟨g, d * 7 + 2, none⟩ (.string (pt ++ s.extract k1 k2))).setCell ⟨g, d * 7 + 6, none⟩ (.int .i64 (k2 : Int)))) := Lib.hid ⟨⟨_, _, TL2⟩, mm2.block OBD (Ne.symm go'), mm2.block SBD (Ne.symm gs)⟩
  have MFIN := Lib.hid (Mv.after xd (mm2.imp (S' := Ch B rb sb) fun x _ hx => by rw [(show x = g from hx)]; exact ⟨hBg, gr, gs⟩))
  have hh6 := xd.cell hhi
  clear hgetd hadd TL1 hget1 TL2 mm1 mm2 TLD OBD SBD
  go_wp2_with fail
  go_end0
  exact ⟨rfl, HPQ.out ▸ FIN.out, MW3.out.trans MFIN.out⟩
end Go.Proofs.YtdafdoodegpdhaaDoor
