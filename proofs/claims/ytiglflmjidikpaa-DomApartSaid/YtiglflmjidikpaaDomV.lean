/- Package dom: Remove: the errors, and the tree behind it. -/
import Derived.Test.YtiglflmjidikpaaDomU
import Derived.Test.YtiglflmjidikpaaTrC
namespace Go.Proofs.Ytiglflmjidikpaa
open Go Go.RowKit Go.BigFrame
set_option linter.unusedVariables false
set_option linter.unusedSimpArgs false

set_option maxRecDepth 100000 in
set_option maxHeartbeats 1000000 in
theorem Remove_none {w : World} {own : Ow} {ptr : Nat → Nat} {tb : Nat} {T : Tr} (hT : TreeAt w own ptr tb T) {id : Int} (h : T.get? id = none) :
    Calls Try.prog 22 #[.pointer (some ⟨tb, 0, none⟩), .int .i64 id] w (RVal (.int .i64 2) w) := by
  have H := Lib.hid h
  clear h
  go_enter Try.func22, Try.ntmps22
  go_wp2_with (go_at_call 80; refine (get_none hT H.out).mono ?_; rintro e w' ⟨rfl, rfl⟩)
  go_ret
  exact ⟨rfl, Ext.refl _⟩
set_option maxRecDepth 100000 in
set_option maxHeartbeats 1000000 in
theorem Remove_root {w : World} {own : Ow} {ptr : Nat → Nat} {tb : Nat} {T : Tr} (hT : TreeAt w own ptr tb T) {id : Int} {nd : Nd} (h : T.get? id = some nd) (hp : nd.parent < 0) :
    Calls Try.prog 22 #[.pointer (some ⟨tb, 0, none⟩), .int .i64 id] w (RVal (.int .i64 1) w) := by
  have H := Lib.hid h
  have hn := (Tr.get_lt h).2.2
  obtain ⟨av, kv, hb, _⟩ := hT.node _ _ hn
  have c := cellOf hb (i := 4) (v := .int .i64 nd.parent) rfl
  clear h hb hn
  go_enter Try.func22, Try.ntmps22
  go_wp2_with (go_at_call 80; refine (get_some hT H.out).mono ?_; rintro e w' ⟨rfl, rfl⟩)
  go_ret
  exact ⟨rfl, Ext.refl _⟩
theorem posOf_mem {l : List Int} {x : Int} (h : x ∈ l) : posOf l x = ((l.idxOf x : Nat) : Int) ∧ l.idxOf x < l.length ∧ l.eraseIdx (l.idxOf x) = l.erase x := by
  refine ⟨if_pos h, List.idxOf_lt_length_iff.2 h, ?_⟩
  induction l with
  | nil => cases h
  | cons y r ih =>
    by_cases e : y = x
    · subst e; simp
    · have hr : x ∈ r := by rcases List.mem_cons.1 h with h | h; exact absurd h.symm e; exact h
      have h2 : (y :: r).idxOf x = r.idxOf x + 1 := by
        rw [List.idxOf_cons]
        have : (y == x) = false := by simpa using e
        rw [this]; rfl
      rw [h2, List.eraseIdx_cons_succ, ih hr, List.erase_cons_tail (by simpa using e)]

set_option maxRecDepth 100000 in
set_option maxHeartbeats 4000000 in
theorem Remove_ok {w : World} {own : Ow} {ptr : Nat → Nat} {tb : Nat} {T : Tr} (hT : TreeAt w own ptr tb T) (hO : Owned own w) {p k : Nat} {pd kd : Nd} (hp : T.nodes[p]? = some (some pd)) (hk : T.nodes[k]? = some (some kd))
    (hpar : kd.parent = (p : Int)) (hpk : p ≠ k) (hkl : pd.kids.length ≤ 60000) (hin : (k : Int) ∈ pd.kids) :
    Calls Try.prog 22 #[.pointer (some ⟨tb, 0, none⟩), .int .i64 k] w (ErrAfter own w tb 0 (T.unlink p k pd kd)) := by
  obtain ⟨hps, hil, her⟩ := posOf_mem hin
  obtain ⟨avp, kvp, bp, op, _, hkp⟩ := hT.node p pd hp
  obtain ⟨avk, kvk, bk, ok, _, _⟩ := hT.node k kd hk
  obtain ⟨g, gcap, _, _, c3, cg, _⟩ := hT.at hp
  obtain ⟨ka, kcap, rfl, kc1, kc2⟩ := hkp.len
  have cp3 := cellOf bp (i := 3) (v := .slice ka pd.kids.length kcap) rfl
  have ck4 := cellOf bk (i := 4) (v := .int .i64 (p : Int)) (by rw [← hpar]; rfl)
  have hpb : (p : Int) < T.nodes.length := by have := (List.getElem?_eq_some_iff.1 hp).1; omega
  have hpkb : ptr p ≠ ptr k := fun e => by rw [e, ok] at op; simp at op; omega
  have HK := Lib.hid (Tr.get_of hk)
  have HNP := Lib.hid hp
  have HNK := Lib.hid hk
  have HT := Lib.hid hT
  have HO := Lib.hid hO
  have HBP := Lib.hid bp
  have HBK := Lib.hid bk
  have HOP := Lib.hid op
  have HOK := Lib.hid ok
  have HKP := Lib.hid hkp
  have HPK := Lib.hid hpk
  have HPKB := Lib.hid hpkb
  have HPS := Lib.hid hps
  have HER := Lib.hid her
  have HPAR := Lib.hid hpar
  have c3' := fun u : ExtOf w => u.ext.cell c3
  have cg' := fun u : ExtOf w => u.ext.cell cg
  have ck' := fun u : ExtOf w => u.ext.cell ck4
  have hil' : ((pd.kids.idxOf (k : Int) : Nat) : Int) ≤ 60000 := by omega
  clear hp hk hT hO bp bk hkp hpar kc2 op ok hpk hpkb hps her hin
  go_enter Try.func22, Try.ntmps22
  go_wp2_with fail
  refine (get_some HT.out HK.out).mono ?_
  rintro e w' ⟨rfl, rfl⟩
  go_wp2_with fail
  refine wp_region_ext (by kernel_rfl) (by kernel_rfl) ?_
  repeat (go_big_quiet_step (fail))
  refine wpQuiet_nil ?_
  rintro _ ⟨u, rfl⟩
  obtain ⟨wu, xu⟩ := u
  show Exit.then _ _ Exit.normal _ wu
  clear c3' cg' ck'
  replace cp3 := xu.cell cp3
  have XU := Lib.hid xu
  clear xu c3 cg ck4
  go_wp2_with fail
  have hOu : Owned own wu := fun b hb => Nat.lt_of_lt_of_le (HO.out b hb) XU.out.size
  have hTu := HT.out.keep (XU.out.keep HO.out)
  have hrow : RowP wu (fun g => own g = some (4, p)) 3 1 (.slice ka pd.kids.length kcap) pd.kids.length (pd.kids.map (Value.int .i64)) :=
    RowP.move HKP.out fun g hg => ⟨XU.out.keep HO.out g (by simp [hg]), hg⟩
  have HROW := Lib.hid hrow
  clear hrow
  refine (index_any HROW.out.rd hkl _).mono ?_
  rintro e w' ⟨rfl, rfl⟩
  rw [HPS.out]
  go_wp2_with fail
  have hdel := delete_any HROW.out hkl hil (((pd.kids.idxOf (k : Int) : Nat) : Int) + 1) rfl
  refine hdel.mono ?_
  clear hdel
  rintro e w3 ⟨v', row, rfl, hr, hg, hrow⟩
  replace hrow : ∀ b, row = some b → own b = some (4, p) := hrow
  rw [HER.out] at hr
  have hlen : (pd.kids.erase (k : Int)).length = pd.kids.length - 1 := by rw [← HER.out, List.length_eraseIdx, if_pos hil]
  rw [← hlen] at hr
  obtain ⟨own1, hs1, hT1, hsame⟩ := kids_plain (XU.out.step HO.out) hTu HNP.out (pd.kids.erase (k : Int)) (fun _ => by rw [HOP.out]; simp) (fun b _ hb => by rw [hb]; simp) (hr.imp fun _ _ h => .inl h) hg hrow
  have hkd : (T.nodes.set p (some { pd with kids := pd.kids.erase (k : Int) }))[k]? = some (some kd) := by
    rw [List.getElem?_set, if_neg HPK.out]; exact HNK.out
  have hT2 := hT1.setParent hkd (-1)
  have hs2 := hs1.setCell (p := ⟨ptr k, 4, none⟩) (fun _ => by show own (ptr k) ≠ none; rw [HOK.out]; simp) (.int .i64 (-1))
  have hsame3 : ∀ b x, own b = some x → x ≠ (4, p) → w3.heap[b]? = w.heap[b]? := fun b x hb hx => by
    have hbl := HO.out b (by simp [hb])
    have hsz := XU.out.size
    rw [hg.block b (by omega) (fun h => by have := hrow b h.symm; rw [hb] at this; exact hx (Option.some.inj this))]
    exact Below.block XU.out b hbl
  have bp3 := (hsame3 _ _ HOP.out (by simp)).trans HBP.out
  have bk3 := (hsame3 _ _ HOK.out (by simp)).trans HBK.out
  have cp3' := cellOf bp3 (i := 3) (v := .slice ka pd.kids.length kcap) rfl
  have fp3 := freeOf bp3 3
  have ck4' := cellOf bk3 (i := 4) (v := .int .i64 kd.parent) rfl
  have fk4 := freeOf bk3 4
  have n1 := HPKB.out
  have n2 := Ne.symm HPKB.out
  obtain ⟨va, vcap, hv, _⟩ := hr.rd.len_of
  have HS2 := Lib.hid hs2
  have HT2 := Lib.hid hT2
  clear hs1 hT1 hsame hkd hT2 hs2 hsame3 bp3 bk3 hr hg hrow hTu hOu cp3 hlen
  rw [hv] at HS2 HT2 ⊢
  clear hv
  go_wp2
  go_ret
  exact ⟨rfl, own1, ptr, HT2.out, HS2.out⟩
end Go.Proofs.Ytiglflmjidikpaa
