/- Package print: inner and node: a node's markup behind what the printer holds. Conditions: at most 10^14 bytes. -/
import Derived.Test.YtdafdoodegpdhaaDoorPC
namespace Go.Proofs.YtdafdoodegpdhaaDoor
open Go Go.RowKit Go.BigFrame
set_option linter.unusedVariables false
set_option linter.unusedSimpArgs false

mutual
/-- as much as a node's markup may take -/
def PN.cost : PN → Nat
  | .mk t a s ks => 6 * s.size + (a.map fun p => p.1.size + 6 * p.2.size + 4).sum + 27 + PN.costs ks
def PN.costs : List PN → Nat
  | [] => 0
  | k :: r => PN.cost k + PN.costs r
end
theorem PN.cost_eq (n : PN) : n.cost = 6 * n.text.size + (n.attrs.map fun p => p.1.size + 6 * p.2.size + 4).sum + 27 + PN.costs n.kids := by cases n; rfl
theorem attrM_len (p : ByteArray × ByteArray) : (attrM p).length ≤ p.1.size + 6 * p.2.size + 4 := by
  have := esc_len true p.2
  have h : p.1.data.toList.length = p.1.size := rfl
  unfold attrM
  simp only [List.length_append, List.length_cons, List.length_nil]
  omega
theorem attrsM_len (l : List (ByteArray × ByteArray)) : (l.flatMap attrM).length ≤ (l.map fun p => p.1.size + 6 * p.2.size + 4).sum := by
  induction l with
  | nil => simp
  | cons x r ih =>
    have := attrM_len x
    simp only [List.flatMap_cons, List.length_append, List.map_cons, List.sum_cons]
    omega
theorem nameT_len (t : Int) : (nameT t).data.toList.length ≤ 10 := by
  have h : t = 1 ∨ t = 2 ∨ t = 3 ∨ t = 4 ∨ t = 5 ∨ t = 6 ∨ t = 7 ∨ t = 8 ∨ t = 9 ∨ t = 10 ∨ t = 11 ∨ t = 12 ∨ t = 13 ∨ t = 14 ∨ t = 15 ∨ t = 16 ∨ ¬ (1 ≤ t ∧ t ≤ 16) := by omega
  rcases h with rfl | rfl | rfl | rfl | rfl | rfl | rfl | rfl | rfl | rfl | rfl | rfl | rfl | rfl | rfl | rfl | h
  all_goals first
    | decide
    | (unfold nameT; rw [if_neg (by omega), if_neg (by omega), if_neg (by omega), if_neg (by omega), if_neg (by omega), if_neg (by omega), if_neg (by omega), if_neg (by omega), if_neg (by omega), if_neg (by omega), if_neg (by omega), if_neg (by omega), if_neg (by omega), if_neg (by omega), if_neg (by omega), if_neg (by omega)]; decide)
theorem PN.costs_mem : ∀ {l : List PN} {k : PN}, k ∈ l → k.cost ≤ PN.costs l := by
  intro l
  induction l with
  | nil => intro k h; cases h
  | cons x r ih =>
    intro k h
    simp only [PN.costs]
    rcases List.mem_cons.1 h with rfl | h
    · omega
    · have := ih h; omega
theorem PN.outers_len {l : List PN} (h : ∀ k ∈ l, k.outer.length ≤ k.cost) : (PN.outers l).length ≤ PN.costs l := by
  induction l with
  | nil => simp [PN.outers, PN.costs]
  | cons x r ih =>
    have h1 := h x (by simp)
    have h2 := ih fun k hk => h k (by simp [hk])
    simp only [PN.outers, PN.costs, List.length_append]
    omega
theorem PN.outer_len : ∀ n : PN, n.outer.length ≤ n.cost := by
  refine PN.induct _ fun n ih => ?_
  have h1 := PN.outers_len ih
  have h2 := esc_len false n.text
  have h3 := attrsM_len n.attrs
  have h4 := nameT_len n.tag
  rw [PN.outer_eq, PN.cost_eq]
  split
  · omega
  · split
    · omega
    · split <;> simp only [List.length_append, List.length_cons, List.length_nil] <;> omega
theorem PN.costs_append (l r : List PN) : PN.costs (l ++ r) = PN.costs l + PN.costs r := by
  induction l with
  | nil => simp [PN.costs]
  | cons x l ih => simp only [List.cons_append, PN.costs, ih]; omega
theorem tagB (x : Int) : (x == 0) = true ∨ (x == 0) = false := by cases h : (x == 0); exact .inr rfl; exact .inl rfl
def NodeOk (w0 : World) (n : PN) : Prop := ∀ (b : Nat) (acc : List UInt8) (w : World) (v : Value), RdN w0 n v → Ext w0 w → PrF w0.heap.size b (Lib.byteCells acc) w → acc.length + n.cost ≤ 100000000000000 →
  Calls Tryd.prog 27 #[.pointer (some ⟨b, 0, none⟩), v] w (Printed w0.heap.size b (acc ++ n.outer) w)
def InnerOk (w0 : World) (n : PN) : Prop := ∀ (b : Nat) (acc : List UInt8) (w : World) (v : Value), RdN w0 n v → Ext w0 w → PrF w0.heap.size b (Lib.byteCells acc) w → acc.length + PN.costs n.kids ≤ 100000000000000 →
  Calls Tryd.prog 32 #[.pointer (some ⟨b, 0, none⟩), v] w (Printed w0.heap.size b (acc ++ n.inner) w)
theorem Kept.ext {b : Nat} {w w' : World} (h : Ext w w') : Kept b w w' := fun j o hj _ _ => h.block hj
theorem Ext.trans' {a b c : World} (h : Ext a b) (k : Below a.heap.size b c) : Ext a c := Below.trans h k
theorem PrF.box {B b : Nat} {l : List Value} {w : World} (h : PrF B b l w) (o : Obj) : PrF B b l (w.alloc o) := h.alloc o
theorem PrF.lt {B b : Nat} {l : List Value} {w : World} (h : PrF B b l w) : b < w.heap.size := h.elim (fun x => x.lt) (fun x => x.lt)
set_option maxHeartbeats 2000000 in
set_option maxRecDepth 100000 in
theorem inner_of {w0 : World} {n : PN} (ih : ∀ k ∈ n.kids, NodeOk w0 k) : InnerOk w0 n := by
  intro b acc w v hr hx hp hc
  obtain ⟨av, kv, rfl, ha, hk⟩ := hr.open
  obtain ⟨ao, ac, rfl, _⟩ := ha.len_of
  obtain ⟨ka, kc, rfl, hk1, hk2, hk3, hk4⟩ := hk
  have hbl := hp.lt
  have x1 := hx.alloc (.cells #[.int .i64 n.tag, .slice ao n.attrs.length ac, .string n.text, .slice ka n.kids.length kc] 25)
  have hb := heap_alloc_new w (.cells #[.int .i64 n.tag, .slice ao n.attrs.length ac, .string n.text, .slice ka n.kids.length kc] 25)
  have p1 := hp.box (.cells #[.int .i64 n.tag, .slice ao n.attrs.length ac, .string n.text, .slice ka n.kids.length kc] 25)
  have k1 : Kept b w (w.alloc (.cells #[.int .i64 n.tag, .slice ao n.attrs.length ac, .string n.text, .slice ka n.kids.length kc] 25)) := Kept.ext ((Ext.refl w).alloc _)
  have HK4 := Lib.hid hk4
  have HIH := Lib.hid ih
  have HX := Lib.hid hx
  have b1 : Below w0.heap.size w (w.alloc (.cells #[.int .i64 n.tag, .slice ao n.attrs.length ac, .string n.text, .slice ka n.kids.length kc] 25)) := (Below.refl _ w).alloc hx.size _
  have HK3 := Lib.hid hk3
  unfold maxLen at hk2
  clear hk4 ih hx ha hr hk3 hp
  have hin : n.inner = if n.tag = 0 then [] else PN.outers n.kids := rfl
  go_enter Tryd.func32, Tryd.ntmps32
  go_upto_region 1 with fail
  obtain ⟨wb, hwb⟩ : ∃ wb : World, wb = w.alloc (.cells #[.int .i64 n.tag, .slice ao n.attrs.length ac, .string n.text, .slice ka n.kids.length kc] 25) := ⟨_, rfl⟩
  rw [← hwb] at x1 hb p1 k1 b1
  rw [← hwb]
  clear hwb
  have n0 := cellOf hb (i := 0) (v := .int .i64 n.tag) rfl
  have n3 := cellOf hb (i := 3) (v := .slice ka n.kids.length kc) rfl
  rcases tagB n.tag with ht | ht
  · go_wp2
    go_end0
    have e : n.inner = [] := by rw [hin, if_pos (by simpa using ht)]
    rw [e, List.append_nil]
    exact ⟨rfl, p1, b1, k1⟩
  · have e : n.inner = PN.outers n.kids := by rw [hin, if_neg (by simpa using ht)]
    have HP := Lib.hid p1
    have HB := Lib.hid b1
    have HK := Lib.hid k1
    have HXB := Lib.hid x1
    clear p1 b1 k1 x1 hin
    go_wp2
    go_loopw [5, 12] (fun _ i wr => ∃ k : Nat, k ≤ n.kids.length ∧ i = .int .i64 k ∧ PrF w0.heap.size b (Lib.byteCells (acc ++ PN.outers (n.kids.take k))) wr ∧ Below w0.heap.size wb wr ∧ Kept b wb wr) (fun _ i _ => n.kids.length - (intOf i).toNat)
    case atStart => exact ⟨0, Nat.zero_le _, rfl, by simpa [PN.outers] using HP.out, Below.refl _ _, Lib.OthersKept.refl _ _ _⟩
    case round =>
      obtain ⟨k, hk, rfl, hI, hbw, hkp⟩ := hrel
      by_cases hlt : k < n.kids.length
      · obtain ⟨x, hx⟩ : ∃ x, n.kids[k]? = some x := ⟨n.kids[k], by simp [hlt]⟩
        cases ka with
        | none => exact absurd (HK3.out rfl).1 (by omega)
        | some a =>
          obtain ⟨bk, off, sp⟩ := a
          obtain ⟨c0', c1', c2', c3', q0, q1, q2, q3, hrd⟩ := HK4.out _ rfl k x hx
          obtain ⟨y1, y2, y3, y4, en⟩ := hrd.shape
          cases en
          have hxx : Ext w0 wr := HXB.out.trans' hbw
          replace q0 := hxx.cells _ _ q0
          replace q1 := hxx.cells _ _ q1
          replace q2 := hxx.cells _ _ q2
          replace q3 := hxx.cells _ _ q3
          rw [add_later _ _ _ (by decide)] at q1 q2 q3
          have htk : n.kids.take (k + 1) = n.kids.take k ++ [x] := by
            obtain ⟨hlt', hxe⟩ := List.getElem?_eq_some_iff.1 hx
            rw [List.take_succ_eq_append_getElem hlt', hxe]
          have hcost : PN.costs (n.kids.take k) + x.cost ≤ PN.costs n.kids := by
            have h1 : PN.costs n.kids = PN.costs (n.kids.take (k + 1)) + PN.costs (n.kids.drop (k + 1)) := by rw [← PN.costs_append, List.take_append_drop]
            rw [htk, PN.costs_append] at h1
            simp only [PN.costs] at h1
            omega
          have hlen := PN.outers_len (l := n.kids.take k) fun z _ => z.outer_len
          have hout : acc ++ PN.outers (n.kids.take k) ++ x.outer = acc ++ PN.outers (n.kids.take (k + 1)) := by rw [htk, PN.outers_append, List.append_assoc]; simp [PN.outers]
          have hcall := HIH.out x (List.mem_of_getElem? hx) b (acc ++ PN.outers (n.kids.take k)) (wr.alloc (.cells #[.int .i64 x.tag, .slice y1 x.attrs.length y2, .string x.text, .slice y3 x.kids.length y4] 25)) _ hrd (hxx.alloc _) (hI.box _) (by rw [List.length_append]; omega)
          rw [hout] at hcall
          have HC := Lib.hid hcall
          have b2 : Below w0.heap.size wr (wr.alloc (.cells #[.int .i64 x.tag, .slice y1 x.attrs.length y2, .string x.text, .slice y3 x.kids.length y4] 25)) := (Below.refl _ wr).alloc hxx.size _
          have k2 : Kept b wr (wr.alloc (.cells #[.int .i64 x.tag, .slice y1 x.attrs.length y2, .string x.text, .slice y3 x.kids.length y4] 25)) := Kept.ext ((Ext.refl wr).alloc _)
          have HB2 := Lib.hid (hbw.trans b2)
          have HK2 := Lib.hid (hkp.trans k2)
          clear hx hrd hxx htk hcost hlen hout hcall b2 k2 hI hbw hkp
          go_wp2_with fail
          refine HC.out.mono ?_
          rintro e W1 ⟨rfl, h1, b1, k1⟩
          go_wp2
          go_roundw
          case rel => exact ⟨k + 1, by omega, by go_num, h1, HB2.out.trans b1, HK2.out.trans k1⟩
          case measure => simp [intOf]; omega
      · have : k = n.kids.length := by omega
        subst this
        rw [List.take_length] at hI
        rw [← e] at hI
        go_wp2
        go_end0
        exact ⟨rfl, hI, HB.out.trans hbw, HK.out.trans hkp⟩
end Go.Proofs.YtdafdoodegpdhaaDoor
