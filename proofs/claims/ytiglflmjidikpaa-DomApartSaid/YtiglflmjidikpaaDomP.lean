/- Package dom: Insert, where all is well. -/
import Derived.Test.YtiglflmjidikpaaDomO
namespace Go.Proofs.Ytiglflmjidikpaa
open Go Go.RowKit Go.BigFrame
set_option linter.unusedVariables false
set_option linter.unusedSimpArgs false

set_option maxRecDepth 100000 in
set_option maxHeartbeats 4000000 in
theorem Insert_ok {w : World} {own : Ow} {ptr : Nat → Nat} {tb : Nat} {T : Tr} (hT : TreeAt w own ptr tb T) (hO : Owned own w) {d : Nat → Nat} (hw : WF T d) {p k at' : Nat} {pd kd : Nd} (hp : T.nodes[p]? = some (some pd)) (hk : T.nodes[k]? = some (some kd))
    (htag : (pd.tag == 0) = false) (hk0 : k ≠ 0) (hpar : kd.parent = -1) (hat : at' ≤ pd.kids.length) (hkl : pd.kids.length ≤ 60000) (hin : T.within p k = false) (hdp : (d p : Int) + 1 + T.hgt 50 k ≤ T.deep) (hsl : InsertsAt at' pd.kids) :
    Calls Try.prog 21 #[.pointer (some ⟨tb, 0, none⟩), .int .i64 p, .int .i64 at', .int .i64 k] w (ErrAfter own w tb 0 (T.link p at' k pd kd)) := by
  obtain ⟨avp, kvp, bp, op, _, hkp⟩ := hT.node p pd hp
  obtain ⟨avk, kvk, bk, ok, _, _⟩ := hT.node k kd hk
  obtain ⟨nv, hb, hob, _⟩ := hT.head
  obtain ⟨ka, kcap, rfl, kc1, kc2⟩ := hkp.len
  have hpk : p ≠ k := fun e => by
    subst e
    have : T.within p p = true := by
      show isIn T p 50 p = true
      rw [isIn_step _ _ hp, if_pos rfl]
    rw [this] at hin; cases hin
  have cp0 := cellOf bp (i := 0) (v := .int .i64 pd.tag) rfl
  have cp3 := cellOf bp (i := 3) (v := .slice ka pd.kids.length kcap) rfl
  have ck4 := cellOf bk (i := 4) (v := .int .i64 (-1)) (by rw [← hpar]; rfl)
  have ct1 := cellOf hb (i := 1) (v := .int .i64 T.deep) rfl
  have hkb : ((k : Int) == 0) = false := by simp; omega
  have hpb : (p : Int) ≤ 2000 := by have := (List.getElem?_eq_some_iff.1 hp).1; have := hw.small.len; omega
  obtain ⟨hh1, hh2⟩ := T.hgt_le 50 k
  have hd1 := hw.deep p pd hp
  have hd2 := hw.small.deep1
  have hpkb : ptr p ≠ ptr k := fun e => by rw [e, ok] at op; simp at op; omega
  have HP := Lib.hid (Tr.get_of hp)
  have HK := Lib.hid (Tr.get_of hk)
  have HNP := Lib.hid hp
  have HNK := Lib.hid hk
  have HW := Lib.hid hw
  have HT := Lib.hid hT
  have HO := Lib.hid hO
  have HIN := Lib.hid hin
  have HSL := Lib.hid hsl
  have HBP := Lib.hid bp
  have HBK := Lib.hid bk
  have HOP := Lib.hid op
  have HOK := Lib.hid ok
  have HKP := Lib.hid hkp
  have HPK := Lib.hid hpk
  have HPKB := Lib.hid hpkb
  have ct1' := fun u : ExtOf w => u.ext.cell ct1
  clear hp hk hw hT hO hin bp bk hb hkp hpar hk0 kc2 hsl op ok hob hpk hpkb
  go_enter Try.func21, Try.ntmps21
  go_wp2_with fail
  refine (get_some HT.out HP.out).mono ?_
  rintro e w' ⟨rfl, rfl⟩
  go_wp2_with fail
  refine (get_some HT.out HK.out).mono ?_
  rintro e w' ⟨rfl, rfl⟩
  go_wp2_with fail
  refine (within_any HT.out HW.out HNP.out (by omega)).mono ?_
  rintro e w' ⟨rfl, rfl⟩
  rw [HIN.out]
  go_wp2_with fail
  refine wp_region_ext (by kernel_rfl) (by kernel_rfl) ?_
  repeat (go_big_quiet_step (first
    | (go_at_call 36; exact inExt (RSame.val (Depth_some (HT.out.keep (ExtOf.ext _ |>.keep HO.out)) HW.out HNP.out)))
    | (go_at_call 50; exact inExt (RSame.val (Height_fuel (HT.out.keep (ExtOf.ext _ |>.keep HO.out)) HW.out 50 k kd HNK.out (by omega) (by omega))))))
  refine wpQuiet_nil ?_
  rintro _ ⟨u, rfl⟩
  obtain ⟨wu, xu⟩ := u
  show Exit.then _ _ Exit.normal _ wu
  clear ct1'
  replace cp3 := xu.cell cp3
  have XU := Lib.hid xu
  clear xu cp0 ck4 ct1
  go_wp2_with fail
  have hOu : Owned own wu := fun b hb => Nat.lt_of_lt_of_le (HO.out b hb) XU.out.size
  have hTu := HT.out.keep (XU.out.keep HO.out)
  have hins := HSL.out (wu.alloc (.cells #[.int .i64 k] 3)) (fun g => own g = some (4, p)) (.slice ka pd.kids.length kcap) wu.heap.size k
    (RowP.ext (RowP.move HKP.out fun g hg => ⟨XU.out.keep HO.out g (by simp [hg]), hg⟩) ((Ext.refl _).alloc _)) hkl hat (heap_alloc_new _ _) (fun h => by have := hOu wu.heap.size (by simp [h]); omega)
  refine hins.mono ?_
  clear hins
  rintro e w3 ⟨v', row, rfl, hr, hg, hrow⟩
  replace hrow : ∀ b, row = some b → own b = some (4, p) := hrow
  have hW : Step own w own (wu.alloc (.cells #[.int .i64 k] 3)) := (XU.out.step HO.out).ext ((Ext.refl _).alloc _)
  have hTW := hTu.keep (((Ext.refl wu).alloc (.cells #[.int .i64 k] 3)).keep hOu)
  obtain ⟨own1, hs1, hT1, hsame⟩ := kids_plain hW hTW HNP.out (pd.kids.take at' ++ [(k : Int)] ++ pd.kids.drop at') (fun _ => by rw [HOP.out]; simp) (fun b _ hb => by rw [hb]; simp) (by
      have hlen : (pd.kids.take at' ++ [(k : Int)] ++ pd.kids.drop at').length = pd.kids.length + 1 := by simp; omega
      rw [hlen]; simpa using hr) hg hrow
  have hkd : (T.nodes.set p (some { pd with kids := pd.kids.take at' ++ [(k : Int)] ++ pd.kids.drop at' }))[k]? = some (some kd) := by
    rw [List.getElem?_set, if_neg HPK.out]; exact HNK.out
  have hT2 := hT1.setParent hkd (p : Int)
  have hs2 := hs1.setCell (p := ⟨ptr k, 4, none⟩) (fun _ => by show own (ptr k) ≠ none; rw [HOK.out]; simp) (.int .i64 p)
  have hpl := HO.out (ptr p) (by rw [HOP.out]; simp)
  have hkl' := HO.out (ptr k) (by rw [HOK.out]; simp)
  have hsz := XU.out.size
  have hsame3 : ∀ b x, own b = some x → x ≠ (4, p) → w3.heap[b]? = w.heap[b]? := fun b x hb hx => by
    have hbl := HO.out b (by simp [hb])
    rw [hg.block b (by simp; omega) (fun h => by have := hrow b h.symm; rw [hb] at this; exact hx (Option.some.inj this)), Below.heap_alloc _ _ _ (by omega)]
    exact Below.block XU.out b hbl
  have bp3 := (hsame3 _ _ HOP.out (by simp)).trans HBP.out
  have bk3 := (hsame3 _ _ HOK.out (by simp)).trans HBK.out
  have cp3' := cellOf bp3 (i := 3) (v := .slice ka pd.kids.length kcap) rfl
  have fp3 := freeOf bp3 3
  have ck4' := cellOf bk3 (i := 4) (v := .int .i64 kd.parent) rfl
  have fk4 := freeOf bk3 4
  have n1 := HPKB.out
  have n2 := Ne.symm HPKB.out
  obtain ⟨va, vcap, hv, _⟩ := hr.rd.len_of
  have HS2 := Lib.hid hs2
  have HT2 := Lib.hid hT2
  clear hs1 hT1 hsame hkd hT2 hs2 hsame3 bp3 bk3 hr hg hrow hW hTW hTu hOu cp3
  rw [hv] at HS2 HT2 ⊢
  clear hv
  go_wp2
  go_ret
  exact ⟨rfl, own1, ptr, HT2.out, HS2.out⟩

theorem insertsAt_end (l : List Int) : InsertsAt l.length l := by
  intro W p v b x hr hl _ hx0 _
  have hx := cellOf hx0 (i := 0) (v := .int .i64 x) rfl
  have h := insert_end hr hl hx
  have e : (l.take l.length ++ [x] ++ l.drop l.length).map (Value.int .i64) = l.map (Value.int .i64) ++ [.int .i64 x] := by simp
  rw [e]; exact h
end Go.Proofs.Ytiglflmjidikpaa
