/- A tree that was made since a world w0, apart from a reading world g: what g tells stays told, whatever is called of the tree. Each call of the tree in these words. No conditions. -/
import Derived.Test.YtiglflmjidikpaaPlain
import Derived.Test.YtiglflmjidikpaaPlainN
import Derived.Test.YtiglflmjidikpaaBackP
import Derived.Test.YtiglflmjidikpaaFair
import Derived.Test.YtiglflmjidikpaaSound
namespace Go.Proofs.Ytiglflmjidikpaa
open Go Go.RowKit Go.BigFrame
set_option linter.unusedVariables false
set_option linter.unusedSimpArgs false

structure Sit (w0 w : World) (tb : Nat) (T : Tr) (g : World) : Prop where
  out : ∃ own ptr, TreeAt w own ptr tb T ∧ Owned own w ∧ Ext w0 w ∧ (∀ b, own b ≠ none → w0.heap.size ≤ b) ∧ Apart g own w
def SitIs (v : Value) (w0 : World) (tb : Nat) (T : Tr) (g : World) (e : Ending) (w' : World) : Prop := e = .returned v ∧ Sit w0 w' tb T g
theorem Sit.before {w0 w : World} {tb : Nat} {T : Tr} {g : World} (h : Sit w0 w tb T g) : Ext w0 w := by obtain ⟨own, ptr, _, _, hx, _, _⟩ := h.out; exact hx
theorem Sit.cell {w0 w : World} {tb : Nat} {T : Tr} {g : World} (h : Sit w0 w tb T g) {p : Addr} {v : Value} (hp : g.cell? p = some v) : w.cell? p = some v := by
  obtain ⟨own, ptr, _, _, _, _, ha⟩ := h.out; exact (ha p v hp).1
theorem Sit.cells {w0 w : World} {tb : Nat} {T : Tr} {g : World} (h : Sit w0 w tb T g) : Cells g w := fun _ _ hp => h.cell hp
theorem Sit.ext {w0 w w' : World} {tb : Nat} {T : Tr} {g : World} (h : Sit w0 w tb T g) (x : Ext w w') : Sit w0 w' tb T g := by
  obtain ⟨own, ptr, hT, hO, hx, hf, ha⟩ := h.out
  exact ⟨own, ptr, hT.keep (x.keep hO), fun b hb => Nat.lt_of_lt_of_le (hO b hb) x.size, hx.trans x, hf, ha.ext x⟩
theorem Sit.after {w0 w w' : World} {tb : Nat} {T T' : Tr} {g : World} {own : Ow} (hx : Ext w0 w) (hf : ∀ b, own b ≠ none → w0.heap.size ≤ b) (ha : Apart g own w) (h : After own w tb T' w') : Sit w0 w' tb T' g := by
  obtain ⟨own', ptr', hT', hS⟩ := h
  obtain ⟨h1, h2⟩ := hS.fresh hx hf
  exact ⟨own', ptr', hT', hS.owned, h1, h2, ha.step hS⟩
/-- what is new may be told, too -/
theorem Sit.grow {w0 w w' : World} {tb : Nat} {T : Tr} {g : World} (h : Sit w0 w tb T g) (x : Ext w w') : ∃ g2, Sit w0 w' tb T g2 ∧ Cells g g2 ∧ ∀ q y, w'.cell? q = some y → w.heap.size ≤ q.block → g2.cell? q = some y := by
  obtain ⟨own, ptr, hT, hO, hx, hf, ha⟩ := h.out
  refine ⟨hide own w', ⟨own, ptr, hT.keep (x.keep hO), fun b hb => Nat.lt_of_lt_of_le (hO b hb) x.size, hx.trans x, hf, hide_apart _ _⟩, (ha.ext x).hide, fun q y hq hl => hide_cell hq ?_⟩
  cases ho : own q.block with
  | none => rfl
  | some z => have := hO q.block (by simp [ho]); omega
theorem Sit.old {w0 w : World} {tb : Nat} {T : Tr} {g : World} (h : Sit w0 w tb T g) : ∃ g2, Sit w0 w tb T g2 ∧ Cells g g2 ∧ Cells w0 g2 := by
  obtain ⟨own, ptr, hT, hO, hx, hf, ha⟩ := h.out
  refine ⟨hide own w, ⟨own, ptr, hT, hO, hx, hf, hide_apart _ _⟩, ha.hide, fun q y hq => hide_cell (hx.cells _ _ hq) ?_⟩
  cases ho : own q.block with
  | none => rfl
  | some z => have h1 := hf q.block (by simp [ho]); have h2 := World.block_lt_of_cell? w0 q hq; omega
theorem InTree.sit {w0 w : World} {tb : Nat} (h : InTree w0 w tb) : ∃ T, GoodT T ∧ Sit w0 w tb T w0 := by
  obtain ⟨own, ptr, T, hT, hO, hG, hx, hf⟩ := h
  exact ⟨T, hG, ⟨own, ptr, hT, hO, hx, hf, apart_of hx hf⟩⟩
section
variable {w0 w : World} {tb : Nat} {T : Tr} {g : World}
theorem Sit.val (h : Sit w0 w tb T g) {f : FuncId} {args : Array Value} {v : Value} (hc : ∀ own ptr, TreeAt w own ptr tb T → Owned own w → Calls Try.prog f args w (RVal v w)) : Calls Try.prog f args w (SitIs v w0 tb T g) := by
  obtain ⟨own, ptr, hT, hO, _⟩ := h.out
  exact (hc own ptr hT hO).mono fun e w' hh => ⟨hh.1, h.ext hh.2⟩
theorem Sit.same (h : Sit w0 w tb T g) {f : FuncId} {args : Array Value} {v : Value} (hc : ∀ own ptr, TreeAt w own ptr tb T → Owned own w → Calls Try.prog f args w (RSame v w)) : Calls Try.prog f args w (SitIs v w0 tb T g) :=
  h.val fun own ptr hT hO => RSame.val (hc own ptr hT hO)
theorem Sit.err (h : Sit w0 w tb T g) {T' : Tr} {f : FuncId} {args : Array Value} {er : Int} (hc : ∀ own ptr, TreeAt w own ptr tb T → Owned own w → Apart g own w → Calls Try.prog f args w (ErrAfter own w tb er T')) : Calls Try.prog f args w (SitIs (.int .i64 er) w0 tb T' g) := by
  obtain ⟨own, ptr, hT, hO, hx, hf, ha⟩ := h.out
  exact (hc own ptr hT hO ha).mono fun e w' hh => ⟨hh.1, Sit.after (T := T) hx hf ha hh.2⟩
theorem sit_has (h : Sit w0 w tb T g) (id : Int) : Calls Try.prog 27 #[.pointer (some ⟨tb, 0, none⟩), .int .i64 id] w (SitIs (.bool (T.get? id).isSome) w0 tb T g) := by
  cases hg : T.get? id with
  | none => exact h.same fun own ptr hT _ => Has_none hT hg
  | some nd => exact h.same fun own ptr hT _ => Has_some hT hg
theorem sit_parent (h : Sit w0 w tb T g) {id : Int} {nd : Nd} (hg : T.get? id = some nd) : Calls Try.prog 34 #[.pointer (some ⟨tb, 0, none⟩), .int .i64 id] w (SitIs (.int .i64 nd.parent) w0 tb T g) :=
  h.same fun own ptr hT _ => Parent_some hT hg
theorem sit_has' (h : Sit w0 w tb T g) {id : Int} (hg : T.get? id = none) : Calls Try.prog 27 #[.pointer (some ⟨tb, 0, none⟩), .int .i64 id] w (SitIs (.bool false) w0 tb T g) :=
  h.same fun own ptr hT _ => Has_none hT hg
theorem sit_has'' (h : Sit w0 w tb T g) {id : Int} {nd : Nd} (hg : T.get? id = some nd) : Calls Try.prog 27 #[.pointer (some ⟨tb, 0, none⟩), .int .i64 id] w (SitIs (.bool true) w0 tb T g) :=
  h.same fun own ptr hT _ => Has_some hT hg
theorem sit_parent' (h : Sit w0 w tb T g) {id : Int} {nd : Nd} (hg : T.get? id = some nd) {z : Int} (hz : nd.parent = z) : Calls Try.prog 34 #[.pointer (some ⟨tb, 0, none⟩), .int .i64 id] w (SitIs (.int .i64 z) w0 tb T g) :=
  h.same fun own ptr hT _ => hz ▸ Parent_some hT hg
theorem sit_count (h : Sit w0 w tb T g) : Calls Try.prog 19 #[.pointer (some ⟨tb, 0, none⟩)] w (SitIs (.int .i64 T.count) w0 tb T g) :=
  h.same fun own ptr hT _ => Count_any hT
theorem sit_depth (h : Sit w0 w tb T g) {d : Nat → Nat} (hw : WF T d) {i : Nat} {nd : Nd} (hi : T.nodes[i]? = some (some nd)) {z : Int} (hz : (d i : Int) = z) : Calls Try.prog 36 #[.pointer (some ⟨tb, 0, none⟩), .int .i64 i] w (SitIs (.int .i64 z) w0 tb T g) :=
  h.same fun own ptr hT _ => hz ▸ Depth_some hT hw hi
theorem sit_index (h : Sit w0 w tb T g) {d : Nat → Nat} (hw : WF T d) {i p : Nat} {nd pd : Nd} (hi : T.nodes[i]? = some (some nd)) (hp : T.nodes[p]? = some (some pd)) (hpar : nd.parent = (p : Int)) {z : Int} (hz : posOf pd.kids i = z) :
    Calls Try.prog 35 #[.pointer (some ⟨tb, 0, none⟩), .int .i64 i] w (SitIs (.int .i64 z) w0 tb T g) :=
  h.val fun own ptr hT _ => hz ▸ Index_kid hT (Tr.get_of hi) (hpar ▸ Tr.get_of hp) (by have := hw.kids_len hp; omega)
theorem sit_index_root (h : Sit w0 w tb T g) {i : Nat} {nd : Nd} (hi : T.nodes[i]? = some (some nd)) (hpar : nd.parent = -1) :
    Calls Try.prog 35 #[.pointer (some ⟨tb, 0, none⟩), .int .i64 i] w (SitIs (.int .i64 (-1)) w0 tb T g) :=
  h.val fun own ptr hT _ => Index_root hT (.inr ⟨nd, Tr.get_of hi, by rw [hpar]; rfl⟩)
/-- a plain tree is told; it is known from then on -/
def SitPlain (n : PN) (w0 : World) (tb : Nat) (T : Tr) (g : World) (e : Ending) (w' : World) : Prop :=
  ∃ a ac k kc g2, e = .returned (.agg #[.int .i64 n.tag, .slice a n.attrs.length ac, .string n.text, .slice k n.kids.length kc]) ∧ RdN g2 n (.agg #[.int .i64 n.tag, .slice a n.attrs.length ac, .string n.text, .slice k n.kids.length kc]) ∧ Sit w0 w' tb T g2 ∧ Cells g g2
theorem RdN.shape {w : World} {n : PN} {v : Value} (h : RdN w n v) : ∃ a ac k kc, v = .agg #[.int .i64 n.tag, .slice a n.attrs.length ac, .string n.text, .slice k n.kids.length kc] := by
  obtain ⟨av, kv, rfl, ha, k, kc, rfl, _⟩ := h.open
  obtain ⟨a, ac, rfl, _⟩ := ha.len_of
  exact ⟨a, ac, k, kc, rfl⟩
theorem sit_plain (h : Sit w0 w tb T g) {d : Nat → Nat} (hw : WF T d) (hA : AttrsOk T) {i : Nat} {nd : Nd} (hi : T.nodes[i]? = some (some nd)) {n : PN} (hn : T.plain i = n) {z : Int} (hz : (i : Int) = z) :
    Calls Try.prog 18 #[.pointer (some ⟨tb, 0, none⟩), .int .i64 z] w (SitPlain n w0 tb T g) := by
  subst hz
  obtain ⟨own, ptr, hT, hO, _⟩ := h.out
  refine (Plain_some hT hO hw hA hi).mono ?_
  rintro e w' ⟨v, g', rfl, hr, x, hg'⟩
  rw [hn] at hr
  obtain ⟨a, ac, k, kc, rfl⟩ := hr.shape
  obtain ⟨g2, h1, h2, h3⟩ := h.grow x
  exact ⟨a, ac, k, kc, g2, rfl, hr.cells fun q y hq => h3 q y (hg' q y hq).1 (hg' q y hq).2, h1, h2⟩
/-- a box of a plain tree -/
def Box4 (g : World) (b : Nat) (c0 c1 c2 c3 : Value) : Prop := g.cell? ⟨b, 0, none⟩ = some c0 ∧ g.cell? ⟨b, 1, none⟩ = some c1 ∧ g.cell? ⟨b, 2, none⟩ = some c2 ∧ g.cell? ⟨b, 3, none⟩ = some c3
theorem Box4.cells {g g2 : World} {b : Nat} {c0 c1 c2 c3 : Value} (h : Box4 g b c0 c1 c2 c3) (k : Cells g g2) : Box4 g2 b c0 c1 c2 c3 := ⟨k _ _ h.1, k _ _ h.2.1, k _ _ h.2.2.1, k _ _ h.2.2.2⟩
theorem Sit.box (h : Sit w0 w tb T g) {b : Nat} {c0 c1 c2 c3 : Value} (hb : Box4 g b c0 c1 c2 c3) : w.cell? ⟨b, 0, none⟩ = some c0 ∧ w.cell? ⟨b, 1, none⟩ = some c1 ∧ w.cell? ⟨b, 2, none⟩ = some c2 ∧ w.cell? ⟨b, 3, none⟩ = some c3 :=
  hb.cells h.cells
theorem Box4.of {w g : World} {b : Nat} {c0 c1 c2 c3 : Value} {t : TypeId} (h : w.heap[b]? = some (.cells #[c0, c1, c2, c3] t (0, 0))) {B : Nat} (hb : B ≤ b) (hn : ∀ q y, w.cell? q = some y → B ≤ q.block → g.cell? q = some y) : Box4 g b c0 c1 c2 c3 :=
  ⟨hn _ _ (cellOf h (i := 0) rfl) hb, hn _ _ (cellOf h (i := 1) rfl) hb, hn _ _ (cellOf h (i := 2) rfl) hb, hn _ _ (cellOf h (i := 3) rfl) hb⟩
theorem sit_sameNode (h : Sit w0 w tb T g) {n : PN} (hn : n.fair = true) {v v' : Value} (h1 : RdN g n v) (h2 : RdN g n v') : Calls Try.prog 26 #[v, v'] w (SitIs (.bool true) w0 tb T g) :=
  (SameNode_eq n hn w v v' (h1.cells h.cells) (h2.cells h.cells)).mono fun e w' hh => ⟨hh.1, h.ext hh.2⟩
theorem sit_awake (h : Sit w0 w tb T g) : Calls Try.prog 16 #[] w (RVal (.bool true) w) := awake_any w
theorem sit_remove (h : Sit w0 w tb T g) {d : Nat → Nat} (hw : WF T d) {p k : Nat} {pd kd : Nd} (hp : T.nodes[p]? = some (some pd)) (hk : T.nodes[k]? = some (some kd)) (hpar : kd.parent = (p : Int)) {T' : Tr} (hT' : T.unlink p k pd kd = T') :
    Calls Try.prog 22 #[.pointer (some ⟨tb, 0, none⟩), .int .i64 k] w (SitIs (.int .i64 0) w0 tb T' g) :=
  h.err fun own ptr hT hO _ => hT' ▸ Remove_ok hT hO hp hk hpar (hw.up_out hp hk hpar).2.2.2 (by have := hw.kids_len hp; omega) (hw.up_out hp hk hpar).2.2.1
theorem sit_insert (h : Sit w0 w tb T g) {d : Nat → Nat} (hw : WF T d) {p k at' : Nat} {pd kd : Nd} (hp : T.nodes[p]? = some (some pd)) (hk : T.nodes[k]? = some (some kd)) (htag : pd.tag ≠ 0) (hk0 : k ≠ 0) (hpar : kd.parent = -1) (hat : at' ≤ pd.kids.length)
    (hin : T.within p k = false) (hdp : (d p : Int) + 1 + T.height k ≤ T.deep) {T' : Tr} (hT' : T.link p at' k pd kd = T') {z : Int} (hz : (at' : Int) = z) :
    Calls Try.prog 21 #[.pointer (some ⟨tb, 0, none⟩), .int .i64 p, .int .i64 z, .int .i64 k] w (SitIs (.int .i64 0) w0 tb T' g) :=
  h.err fun own ptr hT hO _ => hT' ▸ hz ▸ Insert_ok hT hO hw hp hk (by simpa using htag) hk0 hpar hat (by have := hw.kids_len hp; omega) hin hdp (insertsAt_any _ _)
/-- what an insert may come to -/
def InsertSit (w0 : World) (tb : Nat) (T : Tr) (d : Nat → Nat) (g : World) (p at' : Int) (k : Nat) (kd : Nd) (e : Ending) (w' : World) : Prop :=
  (∃ er : Int, (er == 0) = false ∧ SitIs (.int .i64 er) w0 tb T g e w') ∨
  ∃ (p' a' : Nat) (pd : Nd), p = (p' : Int) ∧ at' = (a' : Int) ∧ T.nodes[p']? = some (some pd) ∧ pd.tag ≠ 0 ∧ a' ≤ pd.kids.length ∧ T.within p' k = false ∧ (d p' : Int) + 1 + T.height k ≤ T.deep ∧ SitIs (.int .i64 0) w0 tb (T.link p' a' k pd kd) g e w'
theorem sit_insert_any (h : Sit w0 w tb T g) {d : Nat → Nat} (hw : WF T d) (p at' : Int) {k : Nat} {kd : Nd} (hkn : T.nodes[k]? = some (some kd)) (hk0 : k ≠ 0) (hpar : kd.parent = -1) :
    Calls Try.prog 21 #[.pointer (some ⟨tb, 0, none⟩), .int .i64 p, .int .i64 at', .int .i64 k] w (InsertSit w0 tb T d g p at' k kd) := by
  have bad : ∀ {er : Int}, (er == 0) = false → (∀ own ptr, TreeAt w own ptr tb T → Owned own w → Calls Try.prog 21 #[.pointer (some ⟨tb, 0, none⟩), .int .i64 p, .int .i64 at', .int .i64 k] w (RVal (.int .i64 er) w)) →
      Calls Try.prog 21 #[.pointer (some ⟨tb, 0, none⟩), .int .i64 p, .int .i64 at', .int .i64 k] w (InsertSit w0 tb T d g p at' k kd) := fun he hc => (h.val hc).mono fun e w' hh => .inl ⟨_, he, hh⟩
  have hk := Tr.get_of hkn
  cases hp : T.get? p with
  | none => exact bad (by decide) fun own ptr hT hO => Insert_none hT (.inl hp)
  | some pd =>
    rcases tag_b (x := pd.tag) with ht | ht
    · exact bad (by decide) fun own ptr hT hO => Insert_kind hT hp hk ht
    · by_cases harg : at' < 0 ∨ (pd.kids.length : Int) < at'
      · exact bad (by decide) fun own ptr hT hO => Insert_arg hT hp hk ht (by omega)
      · obtain ⟨p', rfl, hpn⟩ := nat_of hp
        obtain ⟨a', rfl⟩ := Int.eq_ofNat_of_zero_le (show 0 ≤ at' by omega)
        have hal : a' ≤ pd.kids.length := by omega
        have hkl := hw.kids_len hpn
        cases hin : T.within p' k with
        | true => exact bad (by decide) fun own ptr hT hO => Insert_loop hT hw hpn hkn ht hk0 hpar hal hin
        | false =>
          by_cases hdp : T.deep < (d p' : Int) + 1 + T.height k
          · exact bad (by decide) fun own ptr hT hO => Insert_deep hT hO hw hpn hkn ht hk0 hpar hal (by omega) hin hdp
          · have ht' : pd.tag ≠ 0 := by simpa using ht
            exact (sit_insert h hw hpn hkn ht' hk0 hpar hal hin (by omega) rfl rfl).mono fun e w' hh => .inr ⟨p', a', pd, rfl, rfl, hpn, ht', hal, hin, by omega, hh⟩
end
end Go.Proofs.Ytiglflmjidikpaa
