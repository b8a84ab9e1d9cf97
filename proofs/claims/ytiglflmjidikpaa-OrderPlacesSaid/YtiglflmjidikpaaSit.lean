/- A tree that was made since a world w0, apart from a reading world g: what g tells stays told, whatever is called of the tree. Each call of the tree in these words. No conditions. -/
import Derived.Test.YtiglflmjidikpaaPlain
import Derived.Test.YtiglflmjidikpaaD11
import Derived.Test.YtiglflmjidikpaaD10
namespace Go.Proofs.Ytiglflmjidikpaa
open Go Go.RowKit Go.BigFrame
set_option linter.unusedVariables false
set_option linter.unusedSimpArgs false

structure Sit (w0 w : World) (tb : Nat) (T : Tr) (g : World) : Prop where
  out : ∃ own ptr, TreeAt w own ptr tb T ∧ Owned own w ∧ Ext w0 w ∧ (∀ b, own b ≠ none → w0.heap.size ≤ b) ∧ Apart g own w
def SitIs (v : Value) (w0 : World) (tb : Nat) (T : Tr) (g : World) (e : Ending) (w' : World) : Prop := e = .returned v ∧ Sit w0 w' tb T g
theorem Sit.before {w0 w : World} {tb : Nat} {T : Tr} {g : World} (h : Sit w0 w tb T g) : Ext w0 w := by obtain ⟨own, ptr, _, _, hx, _, _⟩ := h.out; exact hx
theorem Sit.cell {w0 w : World} {tb : Nat} {T : Tr} {g : World} (h : Sit w0 w tb T g) {p : Addr} {v : Value} (hp : g.cell? p = some v) : w.cell? p = some v := by
  obtain ⟨own, ptr, _, _, _, _, ha⟩ := h.out; exact (ha p v hp).1
theorem Sit.cells {w0 w : World} {tb : Nat} {T : Tr} {g : World} (h : Sit w0 w tb T g) : Cells g w := fun _ _ hp => h.cell hp
theorem Sit.ext {w0 w w' : World} {tb : Nat} {T : Tr} {g : World} (h : Sit w0 w tb T g) (x : Ext w w') : Sit w0 w' tb T g := by
  obtain ⟨own, ptr, hT, hO, hx, hf, ha⟩ := h.out
  exact ⟨own, ptr, hT.keep (x.keep hO), fun b hb => Nat.lt_of_lt_of_le (hO b hb) x.size, hx.trans x, hf, ha.ext x⟩
theorem Sit.after {w0 w w' : World} {tb : Nat} {T T' : Tr} {g : World} {own : Ow} (hx : Ext w0 w) (hf : ∀ b, own b ≠ none → w0.heap.size ≤ b) (ha : Apart g own w) (h : After own w tb T' w') : Sit w0 w' tb T' g := by
  obtain ⟨own', ptr', hT', hS⟩ := h
  obtain ⟨h1, h2⟩ := hS.fresh hx hf
  exact ⟨own', ptr', hT', hS.owned, h1, h2, ha.step hS⟩
/-- what is new may be told, too -/
theorem Sit.grow {w0 w w' : World} {tb : Nat} {T : Tr} {g : World} (h : Sit w0 w tb T g) (x : Ext w w') : ∃ g2, Sit w0 w' tb T g2 ∧ Cells g g2 ∧ ∀ q y, w'.cell? q = some y → w.heap.size ≤ q.block → g2.cell? q = some y := by
  obtain ⟨own, ptr, hT, hO, hx, hf, ha⟩ := h.out
  refine ⟨hide own w', ⟨own, ptr, hT.keep (x.keep hO), fun b hb => Nat.lt_of_lt_of_le (hO b hb) x.size, hx.trans x, hf, hide_apart _ _⟩, (ha.ext x).hide, fun q y hq hl => hide_cell hq ?_⟩
  cases ho : own q.block with
  | none => rfl
  | some z => have := hO q.block (by simp [ho]); omega
theorem Sit.old {w0 w : World} {tb : Nat} {T : Tr} {g : World} (h : Sit w0 w tb T g) : ∃ g2, Sit w0 w tb T g2 ∧ Cells g g2 ∧ Cells w0 g2 := by
  obtain ⟨own, ptr, hT, hO, hx, hf, ha⟩ := h.out
  refine ⟨hide own w, ⟨own, ptr, hT, hO, hx, hf, hide_apart _ _⟩, ha.hide, fun q y hq => hide_cell (hx.cells _ _ hq) ?_⟩
  cases ho : own q.block with
  | none => rfl
  | some z => have h1 := hf q.block (by simp [ho]); have h2 := World.block_lt_of_cell? w0 q hq; omega
theorem InTree.sit {w0 w : World} {tb : Nat} (h : InTree w0 w tb) : ∃ T, GoodT T ∧ Sit w0 w tb T w0 := by
  obtain ⟨own, ptr, T, hT, hO, hG, hx, hf⟩ := h
  exact ⟨T, hG, ⟨own, ptr, hT, hO, hx, hf, apart_of hx hf⟩⟩
section
variable {w0 w : World} {tb : Nat} {T : Tr} {g : World}
theorem Sit.val (h : Sit w0 w tb T g) {f : FuncId} {args : Array Value} {v : Value} (hc : ∀ own ptr, TreeAt w own ptr tb T → Owned own w → Calls Try.prog f args w (RVal v w)) : Calls Try.prog f args w (SitIs v w0 tb T g) := by
  obtain ⟨own, ptr, hT, hO, _⟩ := h.out
  exact (hc own ptr hT hO).mono fun e w' hh => ⟨hh.1, h.ext hh.2⟩
theorem Sit.same (h : Sit w0 w tb T g) {f : FuncId} {args : Array Value} {v : Value} (hc : ∀ own ptr, TreeAt w own ptr tb T → Owned own w → Calls Try.prog f args w (RSame v w)) : Calls Try.prog f args w (SitIs v w0 tb T g) :=
  h.val fun own ptr hT hO => RSame.val (hc own ptr hT hO)
theorem Sit.err (h : Sit w0 w tb T g) {T' : Tr} {f : FuncId} {args : Array Value} {er : Int} (hc : ∀ own ptr, TreeAt w own ptr tb T → Owned own w → Apart g own w → Calls Try.prog f args w (ErrAfter own w tb er T')) : Calls Try.prog f args w (SitIs (.int .i64 er) w0 tb T' g) := by
  obtain ⟨own, ptr, hT, hO, hx, hf, ha⟩ := h.out
  exact (hc own ptr hT hO ha).mono fun e w' hh => ⟨hh.1, Sit.after (T := T) hx hf ha hh.2⟩
theorem sit_has (h : Sit w0 w tb T g) (id : Int) : Calls Try.prog 27 #[.pointer (some ⟨tb, 0, none⟩), .int .i64 id] w (SitIs (.bool (T.get? id).isSome) w0 tb T g) := by
  cases hg : T.get? id with
  | none => exact h.same fun own ptr hT _ => Has_none hT hg
  | some nd => exact h.same fun own ptr hT _ => Has_some hT hg
theorem sit_parent (h : Sit w0 w tb T g) {id : Int} {nd : Nd} (hg : T.get? id = some nd) : Calls Try.prog 34 #[.pointer (some ⟨tb, 0, none⟩), .int .i64 id] w (SitIs (.int .i64 nd.parent) w0 tb T g) :=
  h.same fun own ptr hT _ => Parent_some hT hg
theorem sit_has' (h : Sit w0 w tb T g) {id : Int} (hg : T.get? id = none) : Calls Try.prog 27 #[.pointer (some ⟨tb, 0, none⟩), .int .i64 id] w (SitIs (.bool false) w0 tb T g) :=
  h.same fun own ptr hT _ => Has_none hT hg
theorem sit_has'' (h : Sit w0 w tb T g) {id : Int} {nd : Nd} (hg : T.get? id = some nd) : Calls Try.prog 27 #[.pointer (some ⟨tb, 0, none⟩), .int .i64 id] w (SitIs (.bool true) w0 tb T g) :=
  h.same fun own ptr hT _ => Has_some hT hg
theorem sit_parent' (h : Sit w0 w tb T g) {id : Int} {nd : Nd} (hg : T.get? id = some nd) {z : Int} (hz : nd.parent = z) : Calls Try.prog 34 #[.pointer (some ⟨tb, 0, none⟩), .int .i64 id] w (SitIs (.int .i64 z) w0 tb T g) :=
  h.same fun own ptr hT _ => hz ▸ Parent_some hT hg
theorem sit_count (h : Sit w0 w tb T g) : Calls Try.prog 19 #[.pointer (some ⟨tb, 0, none⟩)] w (SitIs (.int .i64 T.count) w0 tb T g) :=
  h.same fun own ptr hT _ => Count_any hT
theorem sit_depth (h : Sit w0 w tb T g) {d : Nat → Nat} (hw : WF T d) {i : Nat} {nd : Nd} (hi : T.nodes[i]? = some (some nd)) {z : Int} (hz : (d i : Int) = z) : Calls Try.prog 36 #[.pointer (some ⟨tb, 0, none⟩), .int .i64 i] w (SitIs (.int .i64 z) w0 tb T g) :=
  h.same fun own ptr hT _ => hz ▸ Depth_some hT hw hi
theorem sit_index (h : Sit w0 w tb T g) {d : Nat → Nat} (hw : WF T d) {i p : Nat} {nd pd : Nd} (hi : T.nodes[i]? = some (some nd)) (hp : T.nodes[p]? = some (some pd)) (hpar : nd.parent = (p : Int)) {z : Int} (hz : posOf pd.kids i = z) :
    Calls Try.prog 35 #[.pointer (some ⟨tb, 0, none⟩), .int .i64 i] w (SitIs (.int .i64 z) w0 tb T g) :=
  h.val fun own ptr hT _ => hz ▸ Index_kid hT (Tr.get_of hi) (hpar ▸ Tr.get_of hp) (by have := hw.kids_len hp; omega)
theorem sit_index_root (h : Sit w0 w tb T g) {i : Nat} {nd : Nd} (hi : T.nodes[i]? = some (some nd)) (hpar : nd.parent = -1) :
    Calls Try.prog 35 #[.pointer (some ⟨tb, 0, none⟩), .int .i64 i] w (SitIs (.int .i64 (-1)) w0 tb T g) :=
  h.val fun own ptr hT _ => Index_root hT (.inr ⟨nd, Tr.get_of hi, by rw [hpar]; rfl⟩)
/-- a plain tree is told; it is known from then on -/
def SitPlain (n : PN) (w0 : World) (tb : Nat) (T : Tr) (g : World) (e : Ending) (w' : World) : Prop :=
  ∃ a ac k kc g2, e = .returned (.agg #[.int .i64 n.tag, .slice a n.attrs.length ac, .string n.text, .slice k n.kids.length kc]) ∧ RdN g2 n (.agg #[.int .i64 n.tag, .slice a n.attrs.length ac, .string n.text, .slice k n.kids.length kc]) ∧ Sit w0 w' tb T g2 ∧ Cells g g2
theorem RdN.shape {w : World} {n : PN} {v : Value} (h : RdN w n v) : ∃ a ac k kc, v = .agg #[.int .i64 n.tag, .slice a n.attrs.length ac, .string n.text, .slice k n.kids.length kc] := by
  obtain ⟨av, kv, rfl, ha, k, kc, rfl, _⟩ := h.open
  obtain ⟨a, ac, rfl, _⟩ := ha.len_of
  exact ⟨a, ac, k, kc, rfl⟩
theorem sit_plain (h : Sit w0 w tb T g) {d : Nat → Nat} (hw : WF T d) (hA : AttrsOk T) {i : Nat} {nd : Nd} (hi : T.nodes[i]? = some (some nd)) {n : PN} (hn : T.plain i = n) {z : Int} (hz : (i : Int) = z) :
    Calls Try.prog 18 #[.pointer (some ⟨tb, 0, none⟩), .int .i64 z] w (SitPlain n w0 tb T g) := by
  subst hz
  obtain ⟨own, ptr, hT, hO, _⟩ := h.out
  refine (Plain_some hT hO hw hA hi).mono ?_
  rintro e w' ⟨v, g', rfl, hr, x, hg'⟩
  rw [hn] at hr
  obtain ⟨a, ac, k, kc, rfl⟩ := hr.shape
  obtain ⟨g2, h1, h2, h3⟩ := h.grow x
  exact ⟨a, ac, k, kc, g2, rfl, hr.cells fun q y hq => h3 q y (hg' q y hq).1 (hg' q y hq).2, h1, h2⟩
/-- a box of a plain tree -/
def Box4 (g : World) (b : Nat) (c0 c1 c2 c3 : Value) : Prop := g.cell? ⟨b, 0, none⟩ = some c0 ∧ g.cell? ⟨b, 1, none⟩ = some c1 ∧ g.cell? ⟨b, 2, none⟩ = some c2 ∧ g.cell? ⟨b, 3, none⟩ = some c3
theorem Box4.cells {g g2 : World} {b : Nat} {c0 c1 c2 c3 : Value} (h : Box4 g b c0 c1 c2 c3) (k : Cells g g2) : Box4 g2 b c0 c1 c2 c3 := ⟨k _ _ h.1, k _ _ h.2.1, k _ _ h.2.2.1, k _ _ h.2.2.2⟩
theorem Sit.box (h : Sit w0 w tb T g) {b : Nat} {c0 c1 c2 c3 : Value} (hb : Box4 g b c0 c1 c2 c3) : w.cell? ⟨b, 0, none⟩ = some c0 ∧ w.cell? ⟨b, 1, none⟩ = some c1 ∧ w.cell? ⟨b, 2, none⟩ = some c2 ∧ w.cell? ⟨b, 3, none⟩ = some c3 :=
  hb.cells h.cells
theorem Box4.of {w g : World} {b : Nat} {c0 c1 c2 c3 : Value} {t : TypeId} (h : w.heap[b]? = some (.cells #[c0, c1, c2, c3] t (0, 0))) {B : Nat} (hb : B ≤ b) (hn : ∀ q y, w.cell? q = some y → B ≤ q.block → g.cell? q = some y) : Box4 g b c0 c1 c2 c3 :=
  ⟨hn _ _ (cellOf h (i := 0) rfl) hb, hn _ _ (cellOf h (i := 1) rfl) hb, hn _ _ (cellOf h (i := 2) rfl) hb, hn _ _ (cellOf h (i := 3) rfl) hb⟩
theorem sit_sameNode (h : Sit w0 w tb T g) {n : PN} (hn : n.fair = true) {v v' : Value} (h1 : RdN g n v) (h2 : RdN g n v') : Calls Try.prog 26 #[v, v'] w (SitIs (.bool true) w0 tb T g) :=
  (SameNode_eq n hn w v v' (h1.cells h.cells) (h2.cells h.cells)).mono fun e w' hh => ⟨hh.1, h.ext hh.2⟩
theorem sit_awake (h : Sit w0 w tb T g) : Calls Try.prog 16 #[] w (RVal (.bool true) w) := awake_any w
theorem sit_remove (h : Sit w0 w tb T g) {d : Nat → Nat} (hw : WF T d) {p k : Nat} {pd kd : Nd} (hp : T.nodes[p]? = some (some pd)) (hk : T.nodes[k]? = some (some kd)) (hpar : kd.parent = (p : Int)) {T' : Tr} (hT' : T.unlink p k pd kd = T') :
    Calls Try.prog 22 #[.pointer (some ⟨tb, 0, none⟩), .int .i64 k] w (SitIs (.int .i64 0) w0 tb T' g) :=
  h.err fun own ptr hT hO _ => hT' ▸ Remove_ok hT hO hp hk hpar (hw.up_out hp hk hpar).2.2.2 (by have := hw.kids_len hp; omega) (hw.up_out hp hk hpar).2.2.1
theorem sit_insert (h : Sit w0 w tb T g) {d : Nat → Nat} (hw : WF T d) {p k at' : Nat} {pd kd : Nd} (hp : T.nodes[p]? = some (some pd)) (hk : T.nodes[k]? = some (some kd)) (htag : pd.tag ≠ 0) (hk0 : k ≠ 0) (hpar : kd.parent = -1) (hat : at' ≤ pd.kids.length)
    (hin : T.within p k = false) (hdp : (d p : Int) + 1 + T.height k ≤ T.deep) {T' : Tr} (hT' : T.link p at' k pd kd = T') {z : Int} (hz : (at' : Int) = z) :
    Calls Try.prog 21 #[.pointer (some ⟨tb, 0, none⟩), .int .i64 p, .int .i64 z, .int .i64 k] w (SitIs (.int .i64 0) w0 tb T' g) :=
  h.err fun own ptr hT hO _ => hT' ▸ hz ▸ Insert_ok hT hO hw hp hk (by simpa using htag) hk0 hpar hat (by have := hw.kids_len hp; omega) hin hdp (insertsAt_any _ _)
/-- what an insert may come to -/
def InsertSit (w0 : World) (tb : Nat) (T : Tr) (d : Nat → Nat) (g : World) (p at' : Int) (k : Nat) (kd : Nd) (e : Ending) (w' : World) : Prop :=
  (∃ er : Int, (er == 0) = false ∧ SitIs (.int .i64 er) w0 tb T g e w') ∨
  ∃ (p' a' : Nat) (pd : Nd), p = (p' : Int) ∧ at' = (a' : Int) ∧ T.nodes[p']? = some (some pd) ∧ pd.tag ≠ 0 ∧ a' ≤ pd.kids.length ∧ T.within p' k = false ∧ (d p' : Int) + 1 + T.height k ≤ T.deep ∧ SitIs (.int .i64 0) w0 tb (T.link p' a' k pd kd) g e w'
theorem sit_insert_any (h : Sit w0 w tb T g) {d : Nat → Nat} (hw : WF T d) (p at' : Int) {k : Nat} {kd : Nd} (hkn : T.nodes[k]? = some (some kd)) (hk0 : k ≠ 0) (hpar : kd.parent = -1) :
    Calls Try.prog 21 #[.pointer (some ⟨tb, 0, none⟩), .int .i64 p, .int .i64 at', .int .i64 k] w (InsertSit w0 tb T d g p at' k kd) := by
  have bad : ∀ {er : Int}, (er == 0) = false → (∀ own ptr, TreeAt w own ptr tb T → Owned own w → Calls Try.prog 21 #[.pointer (some ⟨tb, 0, none⟩), .int .i64 p, .int .i64 at', .int .i64 k] w (RVal (.int .i64 er) w)) →
      Calls Try.prog 21 #[.pointer (some ⟨tb, 0, none⟩), .int .i64 p, .int .i64 at', .int .i64 k] w (InsertSit w0 tb T d g p at' k kd) := fun he hc => (h.val hc).mono fun e w' hh => .inl ⟨_, he, hh⟩
  have hk := Tr.get_of hkn
  cases hp : T.get? p with
  | none => exact bad (by decide) fun own ptr hT hO => Insert_none hT (.inl hp)
  | some pd =>
    rcases tag_b (x := pd.tag) with ht | ht
    · exact bad (by decide) fun own ptr hT hO => Insert_kind hT hp hk ht
    · by_cases harg : at' < 0 ∨ (pd.kids.length : Int) < at'
      · exact bad (by decide) fun own ptr hT hO => Insert_arg hT hp hk ht (by omega)
      · obtain ⟨p', rfl, hpn⟩ := nat_of hp
        obtain ⟨a', rfl⟩ := Int.eq_ofNat_of_zero_le (show 0 ≤ at' by omega)
        have hal : a' ≤ pd.kids.length := by omega
        have hkl := hw.kids_len hpn
        cases hin : T.within p' k with
        | true => exact bad (by decide) fun own ptr hT hO => Insert_loop hT hw hpn hkn ht hk0 hpar hal hin
        | false =>
          by_cases hdp : T.deep < (d p' : Int) + 1 + T.height k
          · exact bad (by decide) fun own ptr hT hO => Insert_deep hT hO hw hpn hkn ht hk0 hpar hal (by omega) hin hdp
          · have ht' : pd.tag ≠ 0 := by simpa using ht
            exact (sit_insert h hw hpn hkn ht' hk0 hpar hal hin (by omega) rfl rfl).mono fun e w' hh => .inr ⟨p', a', pd, rfl, rfl, hpn, ht', hal, hin, by omega, hh⟩
end
/-- a node that is taken off -/
theorem WF.off {T : Tr} {d : Nat → Nat} (hw : WF T d) (hA : AttrsOk T) {i p : Nat} {nd pd : Nd} (hi : T.nodes[i]? = some (some nd)) (hp : T.nodes[p]? = some (some pd)) (hpar : nd.parent = (p : Int)) :
    ∃ (T1 : Tr) (d1 : Nat → Nat), T.unlink p i pd nd = T1 ∧ WF T1 d1 ∧ AttrsOk T1 ∧ T1.nodes[i]? = some (some { nd with parent := -1 }) ∧ T1.nodes[p]? = some (some { pd with kids := pd.kids.erase (i : Int) }) ∧ T1.plain i = T.plain i ∧ d1 i = 0 ∧ i ≠ 0 ∧
      pd.tag ≠ 0 ∧ posOf pd.kids i = ((pd.kids.idxOf (i : Int) : Nat) : Int) ∧ pd.kids.idxOf (i : Int) ≤ (pd.kids.erase (i : Int)).length ∧ T1.within p i = false ∧ (d1 p : Int) + 1 + T1.height i ≤ T1.deep ∧
      T1.link p (pd.kids.idxOf (i : Int)) i { pd with kids := pd.kids.erase (i : Int) } { nd with parent := -1 } = T ∧ T.count = T1.count := by
  obtain ⟨h1, h2, h3, h4⟩ := hw.up_out hp hi hpar
  have hw1 := hw.unlink hp hi hpar
  have hg := fun j => Tr.set2_get (pd' := { pd with kids := pd.kids.erase (i : Int) }) (kd' := { nd with parent := -1 }) hp hi j
  have hi1 : (T.unlink p i pd nd).nodes[i]? = some (some { nd with parent := -1 }) := by
    show (T.set2 p i _ _).nodes[i]? = _
    rw [hg, if_pos rfl]
  have hp1 : (T.unlink p i pd nd).nodes[p]? = some (some { pd with kids := pd.kids.erase (i : Int) }) := by
    show (T.set2 p i _ _).nodes[p]? = _
    rw [hg, if_neg h4, if_pos rfl]
  have hpl := hw.plain_set2 (pd' := { pd with kids := pd.kids.erase (i : Int) }) (q := -1) hp hi h1
  obtain ⟨k1, k2, k3⟩ := posOf_mem h3
  have hhd := hw.high_deep 50 i nd hi
  have hd0 : i ≠ 0 := fun e => by
    subst e
    obtain ⟨rd, r1, r2, _⟩ := hw.root
    obtain rfl := some_inj2 r1 hi
    omega
  have hle : (pd.kids.erase (i : Int)).length + 1 = pd.kids.length := by
    have := List.length_erase_of_mem h3; have := List.length_pos_of_mem h3; omega
  refine ⟨T.unlink p i pd nd, _, rfl, hw1, hA.set2 (show NdOk pd from hA _ _ hp) (show NdOk nd from hA _ _ hi), hi1, hp1, hpl.1, ?_, hd0, fun e => ?_, k1, by omega, ?_, ?_, ?_, rfl⟩
  · show (if T.within i i then d i - d i else d i) = 0
    rw [hw.within_self hi]; simp
  · have := (hw.text p pd hp).2.2 e
    rw [this] at h3; cases h3
  · cases hin : (T.unlink p i pd nd).within p i with
    | false => rfl
    | true =>
      have e0 : (if T.within i i then d i - d i else d i) = 0 := by rw [hw.within_self hi]; simp
      rcases Nat.eq_zero_or_pos (d p) with hz | hz
      · have h5 := (hw1.within_depth p _ hp1 hin).2 (by
          show (if T.within i i then d i - d i else d i) = (if T.within p i then d p - d i else d p)
          rw [e0, h1]; simpa using hz.symm)
        exact absurd h5 h4
      · -- the parent's way up is as it was
        have key : ∀ (j : Nat) (jd : Nd), T.nodes[j]? = some (some jd) → T.within j i = false → (T.unlink p i pd nd).within j i = false := by
          refine hw.induct _ (fun j jd hj hjp hjd hji => ?_) (fun j jd q qd hj hjp hq hjd ih hji => ?_)
          · have hne : j ≠ i := fun e => by subst e; rw [hw.within_self hj] at hji; cases hji
            have hj1 : ∃ jd', (T.unlink p i pd nd).nodes[j]? = some (some jd') ∧ jd'.parent = -1 := by
              by_cases e : j = p
              · subst e; obtain rfl := some_inj2 hp hj; exact ⟨_, hp1, hjp⟩
              · refine ⟨jd, ?_, hjp⟩
                show (T.set2 p i _ _).nodes[j]? = _
                rw [hg, if_neg hne, if_neg e]; exact hj
            obtain ⟨jd', e1, e2⟩ := hj1
            rw [hw1.within_root e1 e2]
            exact decide_eq_false (by omega)
          · have hne : j ≠ i := fun e => by subst e; rw [hw.within_self hj] at hji; cases hji
            have hj1 : ∃ jd', (T.unlink p i pd nd).nodes[j]? = some (some jd') ∧ jd'.parent = (q : Int) := by
              by_cases e : j = p
              · subst e; obtain rfl := some_inj2 hp hj; exact ⟨_, hp1, hjp⟩
              · refine ⟨jd, ?_, hjp⟩
                show (T.set2 p i _ _).nodes[j]? = _
                rw [hg, if_neg hne, if_neg e]; exact hj
            obtain ⟨jd', e1, e2⟩ := hj1
            rw [hw1.within_step e1, if_neg (by omega), e2]
            refine ih ?_
            rw [hw.within_step hj, if_neg (by omega), hjp] at hji
            exact hji
        rw [key p pd hp h1] at hin; cases hin
  · show ((if T.within p i then d p - d i else d p : Nat) : Int) + 1 + (T.unlink p i pd nd).height i ≤ T.deep
    have e : (T.unlink p i pd nd).height i = T.height i := hpl.2
    rw [h1, e]
    have : (d i : Int) + T.height i ≤ T.deep := hhd
    simp
    omega
  · exact Tr.link_unlink hp hi h4 hpar (hw.kids p pd hp).1 h3
/-- a loose node that is hung up -/
theorem WF.on {T : Tr} {d : Nat → Nat} (hw : WF T d) (hA : AttrsOk T) {i p a : Nat} {nd pd : Nd} (hi : T.nodes[i]? = some (some nd)) (hp : T.nodes[p]? = some (some pd)) (hpar : nd.parent = -1) (ht : pd.tag ≠ 0) (h0 : i ≠ 0) (ha : a ≤ pd.kids.length) (hin : T.within p i = false)
    (hdp : (d p : Int) + 1 + T.height i ≤ T.deep) :
    ∃ (T1 : Tr) (d1 : Nat → Nat), T.link p a i pd nd = T1 ∧ WF T1 d1 ∧ AttrsOk T1 ∧ T1.nodes[i]? = some (some { nd with parent := p }) ∧ T1.nodes[p]? = some (some { pd with kids := pd.kids.take a ++ [(i : Int)] ++ pd.kids.drop a }) ∧ T1.plain i = T.plain i ∧
      posOf (pd.kids.take a ++ [(i : Int)] ++ pd.kids.drop a) i = (a : Int) ∧
      T1.unlink p i { pd with kids := pd.kids.take a ++ [(i : Int)] ++ pd.kids.drop a } { nd with parent := p } = T := by
  have hpi : p ≠ i := fun e => by subst e; rw [hw.within_self hp] at hin; cases hin
  have hno : (i : Int) ∉ pd.kids := fun hm => by
    have := hw.kid_parent hp hm hi; omega
  have hw1 := hw.link (at' := a) hp hi ht h0 hpar hin hdp
  have hg := fun j => Tr.set2_get (pd' := { pd with kids := pd.kids.take a ++ [(i : Int)] ++ pd.kids.drop a }) (kd' := { nd with parent := p }) hp hi j
  refine ⟨T.link p a i pd nd, _, rfl, hw1, ?_, ?_, ?_, ?_, ?_, Tr.unlink_link hp hi hpi hpar hno⟩
  · rw [Tr.link_eq]; exact hA.set2 (show NdOk pd from hA _ _ hp) (show NdOk nd from hA _ _ hi)
  · rw [Tr.link_eq, hg, if_pos rfl]
  · rw [Tr.link_eq, hg, if_neg hpi, if_pos rfl]
  · rw [Tr.link_eq]; exact (hw.plain_set2 (q := (p : Int)) hp hi hin).1
  · refine posOf_at (k := a) ?_ ?_
    · rw [List.append_assoc, List.getElem?_append_right (by rw [List.length_take]; omega), List.length_take, show a - min a pd.kids.length = 0 by omega]; rfl
    · rw [List.append_assoc, List.take_append_of_le_length (by rw [List.length_take]; omega), List.take_take]
      exact fun h => hno (List.mem_of_mem_take h)
end Go.Proofs.Ytiglflmjidikpaa
