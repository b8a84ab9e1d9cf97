/- lex.owned: a tag's attributes. Conditions: at most 10^6 parts, of at most 10^6 bytes. -/
import Derived.Test.YtdafdoodegpdhaaDoorLT
import Derived.Test.YtdafdoodegpdhaaDoorWE
namespace Go.Proofs.YtdafdoodegpdhaaDoor
open Go Go.RowKit Go.BigFrame We
set_option linter.unusedVariables false
set_option linter.unusedSimpArgs false

def PartOk (p : Part) : Prop := p.1.length ≤ 1000000 ∧ p.2.length ≤ 1000000
theorem small_bs (l : List UInt8) (h : l.length ≤ 1000000) (w : World) : Calls Tryd.prog 81 #[.string (bs l)] w (RVal (.string (bs (l.map smallC))) w) := by
  have := small_any (bs l) (by rw [bs_size]; omega) w
  rw [bs_data] at this
  exact this
set_option maxHeartbeats 400000 in
set_option maxRecDepth 100000 in
theorem owned1_any (p : Part) (nm : ByteArray) (b : Nat) (w : World) (hp : PartOk p) (hb : w.cell? ⟨b, 0, none⟩ = some (.string nm)) :
    Calls Tryd.prog 90 #[.agg #[.string (bs p.1), .string (bs p.2)], .pointer (some ⟨b, 0, none⟩)] w (RBool (decide (bs (p.1.map smallC) = nm)) w) := by
  have x := (Ext.refl w).alloc (.cells #[.string (bs p.1), .string (bs p.2)] 110)
  have bb := heap_alloc_new w (.cells #[.string (bs p.1), .string (bs p.2)] 110)
  have HSM := Lib.hid (fun W => small_bs p.1 hp.1 W)
  obtain ⟨sm, hsm⟩ : ∃ s, bs (p.1.map smallC) = s := ⟨_, rfl⟩
  rw [hsm] at HSM ⊢
  obtain ⟨n1, hn1⟩ : ∃ s, bs p.1 = s := ⟨_, rfl⟩
  rw [hn1] at x bb HSM ⊢
  obtain ⟨n2, hn2⟩ : ∃ s, bs p.2 = s := ⟨_, rfl⟩
  rw [hn2] at x bb ⊢
  clear hsm hn1 hn2
  go_enter Tryd.func90, Tryd.ntmps90
  go_upto_region 1 with fail
  obtain ⟨w1, hw1⟩ : ∃ w1 : World, w1 = w.alloc (.cells #[.string n1, .string n2] 110) := ⟨_, rfl⟩
  rw [← hw1] at x bb ⊢
  clear hw1
  have c0 : ∀ u : ExtOf w1, u.val.cell? ⟨w.heap.size, 0, none⟩ = some (.string n1) := fun u => u.ext.cell (cellOf bb rfl)
  have c1 : ∀ u : ExtOf w1, u.val.cell? ⟨b, 0, none⟩ = some (.string nm) := fun u => u.ext.cell (x.cell hb)
  have X := Lib.hid x
  clear hb bb x
  refine wp_region_ext (by kernel_rfl) (by kernel_rfl) ?_
  repeat (go_big_quiet_step ((go_at_call 81; exact inExt (HSM.out _))))
  refine wpQuiet_nil ?_
  rintro _ ⟨u, rfl⟩
  go_wp2_with fail
  go_ret
  exact ⟨by simp [str_eq], X.out.trans u.ext⟩
def FoundQ (b : Bool) (w : World) (e : Ending) (w' : World) : Prop := ∃ z : Int, e = .returned (.int .i64 z) ∧ decide (0 ≤ z) = b ∧ Ext w w'
theorem pb_cells {l : List Part} {k : Nat} {p : Part} (h : l[k]? = some p) : (l.map pb)[k]? = some (bs p.1, bs p.2) := by rw [List.getElem?_map, h]; rfl
set_option maxHeartbeats 1000000 in
set_option maxRecDepth 100000 in
theorem indexP_any (l : List Part) (v : Value) (nm : ByteArray) (b : Nat) (w : World) (hr : RowRd w 2 v l.length (attrCells (l.map pb))) (hl : l.length ≤ 100000000000000) (hok : ∀ p ∈ l, PartOk p) (hb : w.cell? ⟨b, 0, none⟩ = some (.string nm)) :
    Calls Tryd.prog 109 #[v, .func (.func 90) #[] #[.pointer (some ⟨b, 0, none⟩)]] w (FoundQ (l.any fun p => decide (bs (p.1.map smallC) = nm)) w) := by
  obtain ⟨ao, cap, rfl, hcap⟩ := hr.len_of
  have HR := Lib.hid hr
  have HBC := Lib.hid hb
  have HOK := Lib.hid hok
  clear hr hb hcap hok
  go_enter Tryd.func109, Tryd.ntmps109
  go_wp2_with fail
  go_loopw [5, 8] (fun _ n wr => ∃ k : Nat, k ≤ l.length ∧ n = .int .i64 k ∧ Ext w wr ∧ ∀ (j : Nat) x, j < k → l[j]? = some x → bs (x.1.map smallC) ≠ nm) (fun _ n _ => l.length - (intOf n).toNat)
  case atStart => exact ⟨0, Nat.zero_le _, rfl, Ext.refl _, fun j x hj => by omega⟩
  case round =>
    obtain ⟨k, hk, rfl, xr, hno⟩ := hrel
    have HO := Lib.hid hno
    have XR := Lib.hid xr
    clear hno
    by_cases hlt : k < l.length
    · obtain ⟨p, hp⟩ : ∃ p, l[k]? = some p := ⟨l[k], by simp [hlt]⟩
      cases ao with
      | none =>
        obtain ⟨_, ao', cap', e, _, h0, _⟩ := HR.out
        cases e
        exact absurd (h0 rfl).1 (by omega)
      | some a =>
        obtain ⟨bk, off, sp⟩ := a
        have hrr : RowRd wr 2 (.slice (some ⟨bk, off, sp⟩) l.length cap) l.length (attrCells (l.map pb)) := HR.out.ext xr
        obtain ⟨q0, q1⟩ := hrr.attr (pb_cells hp)
        clear hrr
        rw [add_later _ _ _ (by decide)] at q1
        have HP := Lib.hid hp
        have HC := Lib.hid (owned1_any p nm b wr (HOK.out p (List.mem_of_getElem? hp)) (xr.cell HBC.out))
        have HANY := Lib.hid (fun (he : bs (p.1.map smallC) = nm) => (List.any_eq_true.2 ⟨p, List.mem_of_getElem? hp, decide_eq_true he⟩ : l.any (fun p => decide (bs (p.1.map smallC) = nm)) = true))
        clear hp xr
        by_cases he : bs (p.1.map smallC) = nm
        · rw [decide_eq_true he] at HC
          have HE := Lib.hid (HANY.out he)
          clear he
          go_wp2_with (go_at_call 90; refine HC.out.mono ?_; rintro e w' ⟨rfl, x1⟩)
          have X1 := Lib.hid (XR.out.trans x1)
          clear x1 q0 q1
          go_ret
          exact ⟨(k : Int), rfl, by rw [HE.out]; exact decide_eq_true (by omega), X1.out⟩
        · rw [decide_eq_false he] at HC
          have HE := Lib.hid he
          clear he
          go_wp2_with (go_at_call 90; refine HC.out.mono ?_; rintro e w' ⟨rfl, x1⟩)
          have X1 := Lib.hid (XR.out.trans x1)
          clear x1 q0 q1
          go_roundw
          case rel =>
            refine ⟨k + 1, by omega, by go_num, X1.out, fun j x hj hx => ?_⟩
            rcases Nat.lt_or_ge j k with h1 | h1
            · exact HO.out j x h1 hx
            · obtain rfl : j = k := by omega
              rw [HP.out] at hx
              cases hx
              exact HE.out
          case measure => simp [intOf]; omega
    · clear xr
      go_wp2_with fail
      go_ret
      refine ⟨-1, rfl, ?_, XR.out⟩
      have hf : l.any (fun p => decide (bs (p.1.map smallC) = nm)) = false := by
        rw [List.any_eq_false]
        intro x hx
        obtain ⟨j, hj⟩ := List.getElem?_of_mem hx
        rw [decide_eq_true_eq]
        exact HO.out j x (by have := (List.getElem?_eq_some_iff.1 hj).1; omega) hj
      rw [hf]
      rfl
set_option maxHeartbeats 400000 in
theorem containsP_any (l : List Part) (v : Value) (nm : ByteArray) (b : Nat) (w : World) (hr : RowRd w 2 v l.length (attrCells (l.map pb))) (hl : l.length ≤ 100000000000000) (hok : ∀ p ∈ l, PartOk p) (hb : w.cell? ⟨b, 0, none⟩ = some (.string nm)) :
    Calls Tryd.prog 89 #[v, .func (.func 90) #[] #[.pointer (some ⟨b, 0, none⟩)]] w (RBool (l.any fun p => decide (bs (p.1.map smallC) = nm)) w) := by
  have HC := Lib.hid (indexP_any l v nm b w hr hl hok hb)
  clear hr hb
  go_enter Tryd.func89, Tryd.ntmps89
  go_wp2_with (go_at_call 109; refine HC.out.mono ?_)
  rintro e w1 ⟨z, rfl, hz, x1⟩
  have HZ := Lib.hid hz
  clear hz
  go_wp2_with fail
  go_ret
  exact ⟨by rw [← HZ.out]; rfl, x1⟩
theorem RowRd.front {w : World} {l : List AttrB} {a : Option Addr} {n cap : Nat} (h : RowRd w 2 (.slice a n cap) l.length (attrCells l)) (k : Nat) (hk : k ≤ l.length) : RowRd w 2 (.slice a k cap) (l.take k).length (attrCells (l.take k)) := by
  obtain ⟨h1, ao, cap', e, h2, h3, h4⟩ := h
  cases e
  have hlk : (l.take k).length = k := by rw [List.length_take]; omega
  refine ⟨attrCells_len _, a, cap, by rw [hlk], by omega, fun hn => ?_, fun a' ha j x hx => h4 a' ha j x ?_⟩
  · have := h3 hn; omega
  · have e : attrCells l = attrCells (l.take k) ++ attrCells (l.drop k) := by
      have : ∀ (x y : List AttrB), attrCells (x ++ y) = attrCells x ++ attrCells y := by
        intro x y
        induction x with
        | nil => rfl
        | cons b x ih => obtain ⟨p, q⟩ := b; simp [attrCells, ih]
      rw [← this, List.take_append_drop]
    rw [e, List.getElem?_append_left (List.getElem?_eq_some_iff.1 hx).1]
    exact hx
theorem ownedF_snoc (seen : List (List UInt8)) (l : List Part) (n v : List UInt8) : ownedF seen (l ++ [(n, v)]) = ownedF seen l ++ ownedF (seen ++ l.map fun p => p.1.map smallC) [(n, v)] := by
  induction l generalizing seen with
  | nil => simp [ownedF]
  | cons p l ih =>
    obtain ⟨m, u⟩ := p
    rw [List.cons_append, ownedF, ih]
    conv => rhs; rw [ownedF]
    simp [List.append_assoc]
theorem owned_next {l : List Part} {k : Nat} {p : Part} (h : l[k]? = some p) : ownedL (l.take (k + 1)) = ownedL (l.take k) ++
    if nameOk (bs (p.1.map smallC)) && valueOk (bs (decT p.2)) && !((l.take k).any fun q => decide (bs (q.1.map smallC) = bs (p.1.map smallC))) then [(bs (p.1.map smallC), bs (decT p.2))] else [] := by
  obtain ⟨hk, e⟩ := List.getElem?_eq_some_iff.1 h
  obtain ⟨n, v⟩ := p
  have hc : ((l.take k).any fun q => decide (bs (q.1.map smallC) = bs (n.map smallC))) = ((l.take k).map fun q => q.1.map smallC).contains (n.map smallC) := by
    rw [Bool.eq_iff_iff, List.any_eq_true, List.contains_iff_mem, List.mem_map]
    constructor
    · rintro ⟨q, hq, hd⟩; exact ⟨q, hq, bs_inj.1 (of_decide_eq_true hd)⟩
    · rintro ⟨q, hq, hd⟩; exact ⟨q, hq, decide_eq_true (bs_inj.2 hd)⟩
  dsimp only
  rw [hc]
  unfold ownedL
  rw [List.take_succ_eq_append_getElem hk, e, ownedF_snoc, List.nil_append, ownedF, ownedF, List.append_nil]
def ROwned (l : List Part) (w : World) (e : Ending) (w' : World) : Prop := ∃ ov, e = .returned ov ∧ Ext w w' ∧ RowP w' (fun g => w.heap.size ≤ g) 55 2 ov (ownedL l).length (attrCells (ownedL l))
set_option maxHeartbeats 4000000 in
set_option maxRecDepth 100000 in
theorem owned_any (l : List Part) (v : Value) (w : World) (hr : RowRd w 2 v l.length (attrCells (l.map pb))) (hl : l.length ≤ 1000000) (hok : ∀ p ∈ l, PartOk p) (hlw : LW w) :
    Calls Tryd.prog 66 #[v] w (ROwned l w) := by
  obtain ⟨ao, cap, rfl, hcap⟩ := hr.len_of
  have HR := Lib.hid hr
  have HOK := Lib.hid hok
  have HL := Lib.hid hlw
  clear hr hok hlw
  go_enter Tryd.func66, Tryd.ntmps66
  go_wp2_with fail
  go_loopw [3, 4, 5, 6, 7, 8, 11] (fun ov _ _ _ _ _ n wr => ∃ k : Nat, k ≤ l.length ∧ n = .int .i64 k ∧ Ext w wr ∧ RowP wr (fun g => w.heap.size ≤ g) 55 2 ov (ownedL (l.take k)).length (attrCells (ownedL (l.take k)))) (fun _ _ _ _ _ _ n _ => l.length - (intOf n).toNat)
  case atStart => exact ⟨0, Nat.zero_le _, rfl, Ext.refl _, ⟨rfl, .inl ⟨rfl, none, rfl⟩⟩⟩
  case round =>
    obtain ⟨k, hk, rfl, xr, hout⟩ := hrel
    have HOUT := Lib.hid hout
    have XR := Lib.hid xr
    obtain ⟨oa, ocap, rfl, _⟩ := hout.rd.len_of
    clear hout
    by_cases hlt : k < l.length
    · obtain ⟨p, hp⟩ : ∃ p, l[k]? = some p := ⟨l[k], by simp [hlt]⟩
      cases ao with
      | none =>
        obtain ⟨_, ao', cap', e, _, h0, _⟩ := HR.out
        cases e
        exact absurd (h0 rfl).1 (by omega)
      | some a =>
        obtain ⟨bk, off, sp⟩ := a
        have hrr : RowRd wr 2 (.slice (some ⟨bk, off, sp⟩) l.length cap) l.length (attrCells (l.map pb)) := HR.out.ext xr
        obtain ⟨q0, q1⟩ := hrr.attr (pb_cells hp)
        clear hrr
        rw [add_later _ _ _ (by decide)] at q1
        have HP := Lib.hid hp
        have hpo := HOK.out p (List.mem_of_getElem? hp)
        have HPO := Lib.hid hpo
        have xp := (Ext.refl wr).alloc (.cells #[.string (bs p.1), .string (bs p.2)] 110)
        have hbp := heap_alloc_new wr (.cells #[.string (bs p.1), .string (bs p.2)] 110)
        clear hp xr hpo
        go_upto_region 5 with fail
        obtain ⟨wp, hwp⟩ : ∃ wp : World, wp = wr.alloc (.cells #[.string (bs p.1), .string (bs p.2)] 110) := ⟨_, rfl⟩
        rw [← hwp] at xp hbp ⊢
        clear hwp
        have c0 := cellOf hbp (i := 0) (v := .string (bs p.1)) rfl
        have c1 := cellOf hbp (i := 1) (v := .string (bs p.2)) rfl
        have C0 := Lib.hid c0
        have C1 := Lib.hid c1
        have HSM := Lib.hid (fun W => small_bs p.1 HPO.out.1 W)
        have hlwp := (HL.out.ext XR.out).ext xp
        have HDE := Lib.hid (fun W (x : Ext wp W) => (Decode_any (bs p.2) (by rw [bs_size]; have := HPO.out.2; omega) W (hlwp.ext x) : Calls Tryd.prog 19 #[.string (bs p.2)] W (RVal (.string (bs (decT p.2))) W)))
        have XP := Lib.hid (XR.out.trans xp)
        have XPW := Lib.hid xp
        have HNX := Lib.hid (owned_next HP.out)
        obtain ⟨b1, hb1⟩ : ∃ b, nameOk (bs (p.1.map smallC)) = b := ⟨_, rfl⟩
        obtain ⟨b2, hb2⟩ : ∃ b, valueOk (bs (decT p.2)) = b := ⟨_, rfl⟩
        obtain ⟨b3, hb3⟩ : ∃ b, ((l.take k).any fun q => decide (bs (q.1.map smallC) = bs (p.1.map smallC))) = b := ⟨_, rfl⟩
        have HNA := Lib.hid (fun W => (hb1 ▸ AName_any (bs (p.1.map smallC)) W : Calls Tryd.prog 91 #[.string (bs (p.1.map smallC))] W (RBool b1 W)))
        have HVA := Lib.hid (fun W hT => (hb2 ▸ AValue_any (bs (decT p.2)) W hT : Calls Tryd.prog 92 #[.string (bs (decT p.2))] W (RBool b2 W)))
        have HSE := Lib.hid hb3
        rw [hb1, hb2, hb3] at HNX
        clear hb1 hb2 hb3
        clear q0 q1 hbp xp hlwp c0 c1
        refine wp_region_E (S := fun w' => Ext wp w') (n := 99) (by kernel_rfl) ?_
        have hS : Ext wp wp.drew := (Ext.refl wp).drew
        show wpE _ _ _ _ _ 99 9 (Array.replicate 9 false) _ _
        refine wpE_take (i := 0) (v := .pointer (some ⟨wr.heap.size, 0, none⟩)) (o := { dst := some 16, op := _, type := _, pos := _, after := _, guard := none }) rfl (by kernel_rfl) (by kernel_rfl) (by kernel_rfl) (by kernel_rfl) (fun _ _ _ h => h) (Or.inl ⟨by rfl, fun w' hSw => ?_⟩) hS ?_
        · (have s1 := Ext.cell hSw C0.out; have s2 := Ext.cell hSw C1.out; clear hS; go_simp)
        try simp only [Act.put, List.setIfInBounds_toArray, List.set_cons_zero, List.set_cons_succ]
        refine wpE_take (i := 1) (v := .string (bs p.1)) (o := { dst := some 17, op := _, type := _, pos := _, after := _, guard := none }) rfl (by kernel_rfl) (by kernel_rfl) (by kernel_rfl) (by kernel_rfl) (fun _ _ _ h => h) (Or.inl ⟨by rfl, fun w' hSw => ?_⟩) hS ?_
        · (have s1 := Ext.cell hSw C0.out; have s2 := Ext.cell hSw C1.out; clear hS; go_simp)
        try simp only [Act.put, List.setIfInBounds_toArray, List.set_cons_zero, List.set_cons_succ]
        refine wpE_take (i := 3) (v := .pointer (some ⟨wr.heap.size, 1, none⟩)) (o := { dst := some 19, op := _, type := _, pos := _, after := _, guard := none }) rfl (by kernel_rfl) (by kernel_rfl) (by kernel_rfl) (by kernel_rfl) (fun _ _ _ h => h) (Or.inl ⟨by rfl, fun w' hSw => ?_⟩) hS ?_
        · (have s1 := Ext.cell hSw C0.out; have s2 := Ext.cell hSw C1.out; clear hS; go_simp)
        try simp only [Act.put, List.setIfInBounds_toArray, List.set_cons_zero, List.set_cons_succ]
        refine wpE_take (i := 4) (v := .string (bs p.2)) (o := { dst := some 20, op := _, type := _, pos := _, after := _, guard := none }) rfl (by kernel_rfl) (by kernel_rfl) (by kernel_rfl) (by kernel_rfl) (fun _ _ _ h => h) (Or.inl ⟨by rfl, fun w' hSw => ?_⟩) hS ?_
        · (have s1 := Ext.cell hSw C0.out; have s2 := Ext.cell hSw C1.out; clear hS; go_simp)
        try simp only [Act.put, List.setIfInBounds_toArray, List.set_cons_zero, List.set_cons_succ]
        obtain ⟨wd, hwd⟩ : ∃ wd : World, wd = wp.drew := ⟨_, rfl⟩
        rw [← hwd] at hS ⊢
        have ewd := hS
        clear hwd hS
        refine wpE_two (i := 2) (j := 6) (oi := { dst := some 18, op := _, type := _, pos := _, after := _, guard := none }) (oj := { dst := some 6, op := _, type := _, pos := _, after := _, guard := none }) (by kernel_rfl) rfl rfl (fun K hK => ?_) (fun K hK => ?_)
        · go_simp
          go_at_call 81
          refine (HSM.out _).mono ?_
          rintro e w2 ⟨rfl, xw2⟩
          have ew2 := Ext.trans (b := wd) ewd xw2
          clear xw2
          refine hK.out _ _ (.inr ew2) ?_
          clear hK K
          try simp only [Act.put, List.setIfInBounds_toArray, List.set_cons_zero, List.set_cons_succ]
          refine wpE_two (i := 5) (j := 6) (oi := { dst := some 21, op := _, type := _, pos := _, after := _, guard := none }) (oj := { dst := some 6, op := _, type := _, pos := _, after := _, guard := none }) (by kernel_rfl) rfl rfl (fun K hK => ?_) (fun K hK => ?_)
          · go_simp
            go_at_call 19
            refine (HDE.out _ ew2).mono ?_
            rintro e w3 ⟨rfl, xw3⟩
            have ew3 := Ext.trans (b := w2) ew2 xw3
            clear xw3
            refine hK.out _ _ (.inr ew3) ?_
            clear hK K
            try simp only [Act.put, List.setIfInBounds_toArray, List.set_cons_zero, List.set_cons_succ]
            refine wpE_one (i := 6) (o := { dst := some 6, op := _, type := _, pos := _, after := _, guard := none }) (by kernel_rfl) rfl (fun K hK => ?_)
            go_simp
            have ew4 := Ext.alloc ew3 (.cells #[.string ⟨#[]⟩] 9)
            have hbn := heap_alloc_new w3 (.cells #[.string ⟨#[]⟩] 9)
            have hbz : wp.heap.size ≤ w3.heap.size := ew3.size
            obtain ⟨bn, hbn1⟩ : ∃ b, w3.heap.size = b := ⟨_, rfl⟩
            rw [hbn1] at hbn hbz ⊢
            obtain ⟨w4, hw4⟩ : ∃ w' : World, w' = w3.alloc (.cells #[.string ⟨#[]⟩] 9) := ⟨_, rfl⟩
            rw [← hw4] at ew4 hbn ⊢
            clear hw4 hbn1
            refine hK.out _ _ (.inr ew4) ?_
            clear hK K
            try simp only [Act.put, List.setIfInBounds_toArray, List.set_cons_zero, List.set_cons_succ]
            have hbnw4 := hbn
            clear hbn
            have cn := cellOf hbnw4 (i := 0) rfl
            have fn := freeOf hbnw4 0
            refine wpE_one (i := 7) (o := { dst := none, op := _, type := _, pos := _, after := _, guard := none }) (by kernel_rfl) rfl (fun K hK => ?_)
            go_simp
            have eS := Ext.setCell ew4 (p := ⟨bn, 0, none⟩) hbz (.string (bs (p.1.map smallC)))
            have hbs := heap_setCell_same (i := 0) hbnw4 (.string (bs (p.1.map smallC)))
            have cS := cellOf hbs (i := 0) (v := .string (bs (p.1.map smallC))) rfl
            refine hK.out _ _ (.inr eS) ?_
            clear hK K
            obtain ⟨w5, hw5⟩ : ∃ w' : World, w' = w4.setCell ⟨bn, 0, none⟩ (.string (bs (p.1.map smallC))) := ⟨_, rfl⟩
            rw [← hw5] at eS cS ⊢
            clear hw5 cn fn hbs hbnw4
            refine wpE_one (i := 8) (o := { dst := some 7, op := _, type := _, pos := _, after := _, guard := none }) (by kernel_rfl) rfl (fun K hK => ?_)
            go_simp
            refine hK.out _ _ (.inr eS) ?_
            clear hK K
            try simp only [Act.put, List.setIfInBounds_toArray, List.set_cons_zero, List.set_cons_succ]
            refine wpE_done (by kernel_rfl) ?_
            have CS := Lib.hid cS
            have ES := Lib.hid eS
            have XS := Lib.hid (XP.out.trans eS)
            clear eS cS ew4 hbz
            have hfr : RowRd w5 2 (.slice (some ⟨bk, off, sp⟩) k cap) (l.take k).length (attrCells ((l.take k).map pb)) := by
              have h := RowRd.front (l := l.map pb) (a := some ⟨bk, off, sp⟩) (n := l.length) (cap := cap) (by rw [List.length_map]; exact HR.out.ext XS.out) k (by rw [List.length_map]; omega)
              rw [← List.map_take, List.length_map] at h
              exact h
            have hcs := CS.out
            have HCO := Lib.hid (containsP_any (l.take k) (.slice (some ⟨bk, off, sp⟩) k cap) (bs (p.1.map smallC)) bn w5 hfr (by rw [List.length_take]; omega) (fun q hq => HOK.out q (List.mem_of_mem_take hq)) CS.out)
            rw [HSE.out] at HCO
            have e0 : (0 : Int) ≤ (k : Int) := by omega
            have e1 : (k : Int) ≤ (cap : Int) := by omega
            have hmf : ∀ (fn : Fn) (first cap : Array Value) (w : World), (Instr.makeFunc fn first cap).run Tryd.prog w = .ok (.func fn first cap) w := fun _ _ _ _ => rfl
            clear hfr hcs
            go_wp2_with (go_at_call 89; refine HCO.out.mono ?_)
            rintro e w6 ⟨rfl, x6⟩
            have cs6 := x6.cell CS.out
            have X6 := Lib.hid x6
            have CS6 := Lib.hid cs6
            clear x6
            cases b1 with
            | false =>
              go_wp2_with (go_at_call 91; refine (HNA.out _).mono ?_)
              rintro e w7 ⟨rfl, x7⟩
              have XN := Lib.hid ((XS.out.trans X6.out).trans x7)
              have HROWN : Hid (RowP w7 (fun g => w.heap.size ≤ g) 55 2 (.slice oa (ownedL (l.take k)).length ocap) (ownedL (l.take k) ++ []).length (attrCells (ownedL (l.take k) ++ []))) := Lib.hid (by rw [List.append_nil]; exact (((HOUT.out.ext XPW.out).ext ES.out).ext X6.out).ext x7)
              clear x7 cs6
              go_wp2_with fail
              go_roundw
              case rel => exact ⟨k + 1, by omega, by go_num, XN.out, by rw [HNX.out]; exact HROWN.out⟩
              case measure => simp [intOf]; omega
            | true =>
              go_wp2_with (go_at_call 91; refine (HNA.out _).mono ?_)
              rintro e w7 ⟨rfl, x7⟩
              have X7 := Lib.hid (X6.out.trans x7)
              have CS7 := Lib.hid (x7.cell cs6)
              clear x7 cs6
              have HVB := Lib.hid (HVA.out w7 ((HL.out.ext XS.out).ext X7.out).tabs)
              cases b2 with
              | false =>
                go_wp2_with (go_at_call 92; refine HVB.out.mono ?_)
                rintro e w8 ⟨rfl, x8⟩
                have XN := Lib.hid ((XS.out.trans X7.out).trans x8)
                have HROWN : Hid (RowP w8 (fun g => w.heap.size ≤ g) 55 2 (.slice oa (ownedL (l.take k)).length ocap) (ownedL (l.take k) ++ []).length (attrCells (ownedL (l.take k) ++ []))) := Lib.hid (by rw [List.append_nil]; exact (((HOUT.out.ext XPW.out).ext ES.out).ext X7.out).ext x8)
                clear x8
                go_wp2_with fail
                go_roundw
                case rel => exact ⟨k + 1, by omega, by go_num, XN.out, by rw [HNX.out]; exact HROWN.out⟩
                case measure => simp [intOf]; omega
              | true =>
                go_wp2_with (go_at_call 92; refine HVB.out.mono ?_)
                rintro e w8 ⟨rfl, x8⟩
                have X8 := Lib.hid (X7.out.trans x8)
                have cs8 := x8.cell CS7.out
                clear x8
                cases b3 with
                | true =>
                  have XN := Lib.hid (XS.out.trans X8.out)
                  have HROWN : Hid (RowP w8 (fun g => w.heap.size ≤ g) 55 2 (.slice oa (ownedL (l.take k)).length ocap) (ownedL (l.take k) ++ []).length (attrCells (ownedL (l.take k) ++ []))) := Lib.hid (by rw [List.append_nil]; exact ((HOUT.out.ext XPW.out).ext ES.out).ext X8.out)
                  clear cs8
                  go_wp2_with fail
                  go_roundw
                  case rel => exact ⟨k + 1, by omega, by go_num, XN.out, by rw [HNX.out]; exact HROWN.out⟩
                  case measure => simp [intOf]; omega
                | false =>
                  have XN := Lib.hid (XS.out.trans X8.out)
                  obtain ⟨i0, hi, hz0, hz1, hz2⟩ := info_parts infoA
                  have hxa := (Ext.refl w8).alloc (.cells #[.string (bs (p.1.map smallC)), .string (bs (decT p.2))] 55)
                  have hrA := (((HOUT.out.ext XPW.out).ext ES.out).ext X8.out).ext hxa
                  have hna := heap_alloc_new w8 (.cells #[.string (bs (p.1.map smallC)), .string (bs (decT p.2))] 55)
                  have hlen := ownedF_len (l.take k) []
                  have hlt2 : (l.take k).length ≤ 1000000 := by rw [List.length_take]; omega
                  have hlen2 : (ownedL (l.take k)).length ≤ 1000000 := Nat.le_trans hlen hlt2
                  obtain ⟨v', wB, row, hrunB, hrB, hgB, hrowB⟩ := run_append_row (P := Tryd.prog) (w8.alloc (.cells #[.string (bs (p.1.map smallC)), .string (bs (decT p.2))] 55)) 22 22 55 i0 _ 2 32 Tryd.underlying22 hi hz0 hz1 hz2 (by kernel_rfl) (by decide)
                    hrA ⟨w8.heap.size, 0, none⟩ 1 1 [.string (bs (p.1.map smallC)), .string (bs (decT p.2))] rfl (by
                      intro j u hj
                      rw [Addr.add_lit, Nat.zero_add]
                      exact cellOf hna (by simpa using hj)) (by intro u hu; simp at hu; rcases hu with rfl | rfl <;> rfl) (by decide) (by unfold maxLen; omega) (by omega)
                  have XB := Lib.hid ((XN.out.trans hxa).grown hgB (fun z hz => hrowB z hz))
                  obtain ⟨a7, cap7, e7, _⟩ := hrB.rd.len_of
                  subst e7
                  have HRB := Lib.hid hrunB
                  have hwsz := XN.out.size
                  have HFIN := Lib.hid (RowP.imp hrB (q := fun g => w.heap.size ≤ g) (by
                    intro g _ hg
                    have h8 : (w8.alloc (.cells #[.string (bs (p.1.map smallC)), .string (bs (decT p.2))] 55)).heap.size = w8.heap.size + 1 := by simp
                    rcases hg with h1 | h1
                    · exact h1
                    · omega))
                  have HNS : Hid (attrCells (ownedL (l.take k)) ++ [.string (bs (p.1.map smallC)), .string (bs (decT p.2))] = attrCells (ownedL (l.take k) ++ [(bs (p.1.map smallC), bs (decT p.2))])) := Lib.hid (by rw [attrCells_snoc])
                  clear hrunB hrB hgB hrowB hi hz0 hz1 hz2 hxa hrA hna hlen hlt2 hwsz
                  go_wp2_with (at_builtin; refine wpList_append_run _ rfl _ _ 22 rfl _ _ rfl rfl _ _ HRB.out ?_)
                  go_roundw
                  case rel => exact ⟨k + 1, by omega, by go_num, XB.out, by rw [HNX.out]; have h := HFIN.out; rw [HNS.out] at h; first | exact h | (simp only [List.length_append, List.length_cons, List.length_nil]; exact h)⟩
                  case measure => simp [intOf]; omega
          · go_simp
            have ew3 := Ext.alloc ew2 (.cells #[.string ⟨#[]⟩] 9)
            have hbn := heap_alloc_new w2 (.cells #[.string ⟨#[]⟩] 9)
            have hbz : wp.heap.size ≤ w2.heap.size := ew2.size
            obtain ⟨bn, hbn1⟩ : ∃ b, w2.heap.size = b := ⟨_, rfl⟩
            rw [hbn1] at hbn hbz ⊢
            obtain ⟨w3, hw3⟩ : ∃ w' : World, w' = w2.alloc (.cells #[.string ⟨#[]⟩] 9) := ⟨_, rfl⟩
            rw [← hw3] at ew3 hbn ⊢
            clear hw3 hbn1
            refine hK.out _ _ (.inr ew3) ?_
            clear hK K
            try simp only [Act.put, List.setIfInBounds_toArray, List.set_cons_zero, List.set_cons_succ]
            refine wpE_one (i := 5) (o := { dst := some 21, op := _, type := _, pos := _, after := _, guard := none }) (by kernel_rfl) rfl (fun K hK => ?_)
            have xsv := Ext.refl w3
            go_simp
            go_at_call 19
            refine (HDE.out _ ew3).mono ?_
            rintro e w4 ⟨rfl, xw4⟩
            have ew4 := Ext.trans (b := w3) ew3 xw4
            have hbnw4 := xw4.block hbn
            clear xw4 hbn xsv
            refine hK.out _ _ (.inr ew4) ?_
            clear hK K
            try simp only [Act.put, List.setIfInBounds_toArray, List.set_cons_zero, List.set_cons_succ]
            have cn := cellOf hbnw4 (i := 0) rfl
            have fn := freeOf hbnw4 0
            refine wpE_one (i := 7) (o := { dst := none, op := _, type := _, pos := _, after := _, guard := none }) (by kernel_rfl) rfl (fun K hK => ?_)
            go_simp
            have eS := Ext.setCell ew4 (p := ⟨bn, 0, none⟩) hbz (.string (bs (p.1.map smallC)))
            have hbs := heap_setCell_same (i := 0) hbnw4 (.string (bs (p.1.map smallC)))
            have cS := cellOf hbs (i := 0) (v := .string (bs (p.1.map smallC))) rfl
            refine hK.out _ _ (.inr eS) ?_
            clear hK K
            obtain ⟨w5, hw5⟩ : ∃ w' : World, w' = w4.setCell ⟨bn, 0, none⟩ (.string (bs (p.1.map smallC))) := ⟨_, rfl⟩
            rw [← hw5] at eS cS ⊢
            clear hw5 cn fn hbs hbnw4
            refine wpE_one (i := 8) (o := { dst := some 7, op := _, type := _, pos := _, after := _, guard := none }) (by kernel_rfl) rfl (fun K hK => ?_)
            go_simp
            refine hK.out _ _ (.inr eS) ?_
            clear hK K
            try simp only [Act.put, List.setIfInBounds_toArray, List.set_cons_zero, List.set_cons_succ]
            refine wpE_done (by kernel_rfl) ?_
            have CS := Lib.hid cS
            have ES := Lib.hid eS
            have XS := Lib.hid (XP.out.trans eS)
            clear eS cS ew4 hbz
            have hfr : RowRd w5 2 (.slice (some ⟨bk, off, sp⟩) k cap) (l.take k).length (attrCells ((l.take k).map pb)) := by
              have h := RowRd.front (l := l.map pb) (a := some ⟨bk, off, sp⟩) (n := l.length) (cap := cap) (by rw [List.length_map]; exact HR.out.ext XS.out) k (by rw [List.length_map]; omega)
              rw [← List.map_take, List.length_map] at h
              exact h
            have hcs := CS.out
            have HCO := Lib.hid (containsP_any (l.take k) (.slice (some ⟨bk, off, sp⟩) k cap) (bs (p.1.map smallC)) bn w5 hfr (by rw [List.length_take]; omega) (fun q hq => HOK.out q (List.mem_of_mem_take hq)) CS.out)
            rw [HSE.out] at HCO
            have e0 : (0 : Int) ≤ (k : Int) := by omega
            have e1 : (k : Int) ≤ (cap : Int) := by omega
            have hmf : ∀ (fn : Fn) (first cap : Array Value) (w : World), (Instr.makeFunc fn first cap).run Tryd.prog w = .ok (.func fn first cap) w := fun _ _ _ _ => rfl
            clear hfr hcs
            go_wp2_with (go_at_call 89; refine HCO.out.mono ?_)
            rintro e w6 ⟨rfl, x6⟩
            have cs6 := x6.cell CS.out
            have X6 := Lib.hid x6
            have CS6 := Lib.hid cs6
            clear x6
            cases b1 with
            | false =>
              go_wp2_with (go_at_call 91; refine (HNA.out _).mono ?_)
              rintro e w7 ⟨rfl, x7⟩
              have XN := Lib.hid ((XS.out.trans X6.out).trans x7)
              have HROWN : Hid (RowP w7 (fun g => w.heap.size ≤ g) 55 2 (.slice oa (ownedL (l.take k)).length ocap) (ownedL (l.take k) ++ []).length (attrCells (ownedL (l.take k) ++ []))) := Lib.hid (by rw [List.append_nil]; exact (((HOUT.out.ext XPW.out).ext ES.out).ext X6.out).ext x7)
              clear x7 cs6
              go_wp2_with fail
              go_roundw
              case rel => exact ⟨k + 1, by omega, by go_num, XN.out, by rw [HNX.out]; exact HROWN.out⟩
              case measure => simp [intOf]; omega
            | true =>
              go_wp2_with (go_at_call 91; refine (HNA.out _).mono ?_)
              rintro e w7 ⟨rfl, x7⟩
              have X7 := Lib.hid (X6.out.trans x7)
              have CS7 := Lib.hid (x7.cell cs6)
              clear x7 cs6
              have HVB := Lib.hid (HVA.out w7 ((HL.out.ext XS.out).ext X7.out).tabs)
              cases b2 with
              | false =>
                go_wp2_with (go_at_call 92; refine HVB.out.mono ?_)
                rintro e w8 ⟨rfl, x8⟩
                have XN := Lib.hid ((XS.out.trans X7.out).trans x8)
                have HROWN : Hid (RowP w8 (fun g => w.heap.size ≤ g) 55 2 (.slice oa (ownedL (l.take k)).length ocap) (ownedL (l.take k) ++ []).length (attrCells (ownedL (l.take k) ++ []))) := Lib.hid (by rw [List.append_nil]; exact (((HOUT.out.ext XPW.out).ext ES.out).ext X7.out).ext x8)
                clear x8
                go_wp2_with fail
                go_roundw
                case rel => exact ⟨k + 1, by omega, by go_num, XN.out, by rw [HNX.out]; exact HROWN.out⟩
                case measure => simp [intOf]; omega
              | true =>
                go_wp2_with (go_at_call 92; refine HVB.out.mono ?_)
                rintro e w8 ⟨rfl, x8⟩
                have X8 := Lib.hid (X7.out.trans x8)
                have cs8 := x8.cell CS7.out
                clear x8
                cases b3 with
                | true =>
                  have XN := Lib.hid (XS.out.trans X8.out)
                  have HROWN : Hid (RowP w8 (fun g => w.heap.size ≤ g) 55 2 (.slice oa (ownedL (l.take k)).length ocap) (ownedL (l.take k) ++ []).length (attrCells (ownedL (l.take k) ++ []))) := Lib.hid (by rw [List.append_nil]; exact ((HOUT.out.ext XPW.out).ext ES.out).ext X8.out)
                  clear cs8
                  go_wp2_with fail
                  go_roundw
                  case rel => exact ⟨k + 1, by omega, by go_num, XN.out, by rw [HNX.out]; exact HROWN.out⟩
                  case measure => simp [intOf]; omega
                | false =>
                  have XN := Lib.hid (XS.out.trans X8.out)
                  obtain ⟨i0, hi, hz0, hz1, hz2⟩ := info_parts infoA
                  have hxa := (Ext.refl w8).alloc (.cells #[.string (bs (p.1.map smallC)), .string (bs (decT p.2))] 55)
                  have hrA := (((HOUT.out.ext XPW.out).ext ES.out).ext X8.out).ext hxa
                  have hna := heap_alloc_new w8 (.cells #[.string (bs (p.1.map smallC)), .string (bs (decT p.2))] 55)
                  have hlen := ownedF_len (l.take k) []
                  have hlt2 : (l.take k).length ≤ 1000000 := by rw [List.length_take]; omega
                  have hlen2 : (ownedL (l.take k)).length ≤ 1000000 := Nat.le_trans hlen hlt2
                  obtain ⟨v', wB, row, hrunB, hrB, hgB, hrowB⟩ := run_append_row (P := Tryd.prog) (w8.alloc (.cells #[.string (bs (p.1.map smallC)), .string (bs (decT p.2))] 55)) 22 22 55 i0 _ 2 32 Tryd.underlying22 hi hz0 hz1 hz2 (by kernel_rfl) (by decide)
                    hrA ⟨w8.heap.size, 0, none⟩ 1 1 [.string (bs (p.1.map smallC)), .string (bs (decT p.2))] rfl (by
                      intro j u hj
                      rw [Addr.add_lit, Nat.zero_add]
                      exact cellOf hna (by simpa using hj)) (by intro u hu; simp at hu; rcases hu with rfl | rfl <;> rfl) (by decide) (by unfold maxLen; omega) (by omega)
                  have XB := Lib.hid ((XN.out.trans hxa).grown hgB (fun z hz => hrowB z hz))
                  obtain ⟨a7, cap7, e7, _⟩ := hrB.rd.len_of
                  subst e7
                  have HRB := Lib.hid hrunB
                  have hwsz := XN.out.size
                  have HFIN := Lib.hid (RowP.imp hrB (q := fun g => w.heap.size ≤ g) (by
                    intro g _ hg
                    have h8 : (w8.alloc (.cells #[.string (bs (p.1.map smallC)), .string (bs (decT p.2))] 55)).heap.size = w8.heap.size + 1 := by simp
                    rcases hg with h1 | h1
                    · exact h1
                    · omega))
                  have HNS : Hid (attrCells (ownedL (l.take k)) ++ [.string (bs (p.1.map smallC)), .string (bs (decT p.2))] = attrCells (ownedL (l.take k) ++ [(bs (p.1.map smallC), bs (decT p.2))])) := Lib.hid (by rw [attrCells_snoc])
                  clear hrunB hrB hgB hrowB hi hz0 hz1 hz2 hxa hrA hna hlen hlt2 hwsz
                  go_wp2_with (at_builtin; refine wpList_append_run _ rfl _ _ 22 rfl _ _ rfl rfl _ _ HRB.out ?_)
                  go_roundw
                  case rel => exact ⟨k + 1, by omega, by go_num, XB.out, by rw [HNX.out]; have h := HFIN.out; rw [HNS.out] at h; first | exact h | (simp only [List.length_append, List.length_cons, List.length_nil]; exact h)⟩
                  case measure => simp [intOf]; omega
        · go_simp
          have ew2 := Ext.alloc ewd (.cells #[.string ⟨#[]⟩] 9)
          have hbn := heap_alloc_new wd (.cells #[.string ⟨#[]⟩] 9)
          have hbz : wp.heap.size ≤ wd.heap.size := ewd.size
          obtain ⟨bn, hbn1⟩ : ∃ b, wd.heap.size = b := ⟨_, rfl⟩
          rw [hbn1] at hbn hbz ⊢
          obtain ⟨w2, hw2⟩ : ∃ w' : World, w' = wd.alloc (.cells #[.string ⟨#[]⟩] 9) := ⟨_, rfl⟩
          rw [← hw2] at ew2 hbn ⊢
          clear hw2 hbn1
          refine hK.out _ _ (.inr ew2) ?_
          clear hK K
          try simp only [Act.put, List.setIfInBounds_toArray, List.set_cons_zero, List.set_cons_succ]
          refine wpE_one (i := 2) (o := { dst := some 18, op := _, type := _, pos := _, after := _, guard := none }) (by kernel_rfl) rfl (fun K hK => ?_)
          go_simp
          go_at_call 81
          refine (HSM.out _).mono ?_
          rintro e w3 ⟨rfl, xw3⟩
          have ew3 := Ext.trans (b := w2) ew2 xw3
          have hbn3 := xw3.block hbn
          clear xw3 hbn
          refine hK.out _ _ (.inr ew3) ?_
          clear hK K
          try simp only [Act.put, List.setIfInBounds_toArray, List.set_cons_zero, List.set_cons_succ]
          refine wpE_one (i := 5) (o := { dst := some 21, op := _, type := _, pos := _, after := _, guard := none }) (by kernel_rfl) rfl (fun K hK => ?_)
          go_simp
          go_at_call 19
          refine (HDE.out _ ew3).mono ?_
          rintro e w4 ⟨rfl, xw4⟩
          have ew4 := Ext.trans (b := w3) ew3 xw4
          have hbnw4 := xw4.block hbn3
          clear xw4 hbn3
          refine hK.out _ _ (.inr ew4) ?_
          clear hK K
          try simp only [Act.put, List.setIfInBounds_toArray, List.set_cons_zero, List.set_cons_succ]
          have cn := cellOf hbnw4 (i := 0) rfl
          have fn := freeOf hbnw4 0
          refine wpE_one (i := 7) (o := { dst := none, op := _, type := _, pos := _, after := _, guard := none }) (by kernel_rfl) rfl (fun K hK => ?_)
          go_simp
          have eS := Ext.setCell ew4 (p := ⟨bn, 0, none⟩) hbz (.string (bs (p.1.map smallC)))
          have hbs := heap_setCell_same (i := 0) hbnw4 (.string (bs (p.1.map smallC)))
          have cS := cellOf hbs (i := 0) (v := .string (bs (p.1.map smallC))) rfl
          refine hK.out _ _ (.inr eS) ?_
          clear hK K
          obtain ⟨w5, hw5⟩ : ∃ w' : World, w' = w4.setCell ⟨bn, 0, none⟩ (.string (bs (p.1.map smallC))) := ⟨_, rfl⟩
          rw [← hw5] at eS cS ⊢
          clear hw5 cn fn hbs hbnw4
          refine wpE_one (i := 8) (o := { dst := some 7, op := _, type := _, pos := _, after := _, guard := none }) (by kernel_rfl) rfl (fun K hK => ?_)
          go_simp
          refine hK.out _ _ (.inr eS) ?_
          clear hK K
          try simp only [Act.put, List.setIfInBounds_toArray, List.set_cons_zero, List.set_cons_succ]
          refine wpE_done (by kernel_rfl) ?_
          have CS := Lib.hid cS
          have ES := Lib.hid eS
          have XS := Lib.hid (XP.out.trans eS)
          clear eS cS ew4 hbz
          have hfr : RowRd w5 2 (.slice (some ⟨bk, off, sp⟩) k cap) (l.take k).length (attrCells ((l.take k).map pb)) := by
            have h := RowRd.front (l := l.map pb) (a := some ⟨bk, off, sp⟩) (n := l.length) (cap := cap) (by rw [List.length_map]; exact HR.out.ext XS.out) k (by rw [List.length_map]; omega)
            rw [← List.map_take, List.length_map] at h
            exact h
          have hcs := CS.out
          have HCO := Lib.hid (containsP_any (l.take k) (.slice (some ⟨bk, off, sp⟩) k cap) (bs (p.1.map smallC)) bn w5 hfr (by rw [List.length_take]; omega) (fun q hq => HOK.out q (List.mem_of_mem_take hq)) CS.out)
          rw [HSE.out] at HCO
          have e0 : (0 : Int) ≤ (k : Int) := by omega
          have e1 : (k : Int) ≤ (cap : Int) := by omega
          have hmf : ∀ (fn : Fn) (first cap : Array Value) (w : World), (Instr.makeFunc fn first cap).run Tryd.prog w = .ok (.func fn first cap) w := fun _ _ _ _ => rfl
          clear hfr hcs
          go_wp2_with (go_at_call 89; refine HCO.out.mono ?_)
          rintro e w6 ⟨rfl, x6⟩
          have cs6 := x6.cell CS.out
          have X6 := Lib.hid x6
          have CS6 := Lib.hid cs6
          clear x6
          cases b1 with
          | false =>
            go_wp2_with (go_at_call 91; refine (HNA.out _).mono ?_)
            rintro e w7 ⟨rfl, x7⟩
            have XN := Lib.hid ((XS.out.trans X6.out).trans x7)
            have HROWN : Hid (RowP w7 (fun g => w.heap.size ≤ g) 55 2 (.slice oa (ownedL (l.take k)).length ocap) (ownedL (l.take k) ++ []).length (attrCells (ownedL (l.take k) ++ []))) := Lib.hid (by rw [List.append_nil]; exact (((HOUT.out.ext XPW.out).ext ES.out).ext X6.out).ext x7)
            clear x7 cs6
            go_wp2_with fail
            go_roundw
            case rel => exact ⟨k + 1, by omega, by go_num, XN.out, by rw [HNX.out]; exact HROWN.out⟩
            case measure => simp [intOf]; omega
          | true =>
            go_wp2_with (go_at_call 91; refine (HNA.out _).mono ?_)
            rintro e w7 ⟨rfl, x7⟩
            have X7 := Lib.hid (X6.out.trans x7)
            have CS7 := Lib.hid (x7.cell cs6)
            clear x7 cs6
            have HVB := Lib.hid (HVA.out w7 ((HL.out.ext XS.out).ext X7.out).tabs)
            cases b2 with
            | false =>
              go_wp2_with (go_at_call 92; refine HVB.out.mono ?_)
              rintro e w8 ⟨rfl, x8⟩
              have XN := Lib.hid ((XS.out.trans X7.out).trans x8)
              have HROWN : Hid (RowP w8 (fun g => w.heap.size ≤ g) 55 2 (.slice oa (ownedL (l.take k)).length ocap) (ownedL (l.take k) ++ []).length (attrCells (ownedL (l.take k) ++ []))) := Lib.hid (by rw [List.append_nil]; exact (((HOUT.out.ext XPW.out).ext ES.out).ext X7.out).ext x8)
              clear x8
              go_wp2_with fail
              go_roundw
              case rel => exact ⟨k + 1, by omega, by go_num, XN.out, by rw [HNX.out]; exact HROWN.out⟩
              case measure => simp [intOf]; omega
            | true =>
              go_wp2_with (go_at_call 92; refine HVB.out.mono ?_)
              rintro e w8 ⟨rfl, x8⟩
              have X8 := Lib.hid (X7.out.trans x8)
              have cs8 := x8.cell CS7.out
              clear x8
              cases b3 with
              | true =>
                have XN := Lib.hid (XS.out.trans X8.out)
                have HROWN : Hid (RowP w8 (fun g => w.heap.size ≤ g) 55 2 (.slice oa (ownedL (l.take k)).length ocap) (ownedL (l.take k) ++ []).length (attrCells (ownedL (l.take k) ++ []))) := Lib.hid (by rw [List.append_nil]; exact ((HOUT.out.ext XPW.out).ext ES.out).ext X8.out)
                clear cs8
                go_wp2_with fail
                go_roundw
                case rel => exact ⟨k + 1, by omega, by go_num, XN.out, by rw [HNX.out]; exact HROWN.out⟩
                case measure => simp [intOf]; omega
              | false =>
                have XN := Lib.hid (XS.out.trans X8.out)
                obtain ⟨i0, hi, hz0, hz1, hz2⟩ := info_parts infoA
                have hxa := (Ext.refl w8).alloc (.cells #[.string (bs (p.1.map smallC)), .string (bs (decT p.2))] 55)
                have hrA := (((HOUT.out.ext XPW.out).ext ES.out).ext X8.out).ext hxa
                have hna := heap_alloc_new w8 (.cells #[.string (bs (p.1.map smallC)), .string (bs (decT p.2))] 55)
                have hlen := ownedF_len (l.take k) []
                have hlt2 : (l.take k).length ≤ 1000000 := by rw [List.length_take]; omega
                have hlen2 : (ownedL (l.take k)).length ≤ 1000000 := Nat.le_trans hlen hlt2
                obtain ⟨v', wB, row, hrunB, hrB, hgB, hrowB⟩ := run_append_row (P := Tryd.prog) (w8.alloc (.cells #[.string (bs (p.1.map smallC)), .string (bs (decT p.2))] 55)) 22 22 55 i0 _ 2 32 Tryd.underlying22 hi hz0 hz1 hz2 (by kernel_rfl) (by decide)
                  hrA ⟨w8.heap.size, 0, none⟩ 1 1 [.string (bs (p.1.map smallC)), .string (bs (decT p.2))] rfl (by
                    intro j u hj
                    rw [Addr.add_lit, Nat.zero_add]
                    exact cellOf hna (by simpa using hj)) (by intro u hu; simp at hu; rcases hu with rfl | rfl <;> rfl) (by decide) (by unfold maxLen; omega) (by omega)
                have XB := Lib.hid ((XN.out.trans hxa).grown hgB (fun z hz => hrowB z hz))
                obtain ⟨a7, cap7, e7, _⟩ := hrB.rd.len_of
                subst e7
                have HRB := Lib.hid hrunB
                have hwsz := XN.out.size
                have HFIN := Lib.hid (RowP.imp hrB (q := fun g => w.heap.size ≤ g) (by
                  intro g _ hg
                  have h8 : (w8.alloc (.cells #[.string (bs (p.1.map smallC)), .string (bs (decT p.2))] 55)).heap.size = w8.heap.size + 1 := by simp
                  rcases hg with h1 | h1
                  · exact h1
                  · omega))
                have HNS : Hid (attrCells (ownedL (l.take k)) ++ [.string (bs (p.1.map smallC)), .string (bs (decT p.2))] = attrCells (ownedL (l.take k) ++ [(bs (p.1.map smallC), bs (decT p.2))])) := Lib.hid (by rw [attrCells_snoc])
                clear hrunB hrB hgB hrowB hi hz0 hz1 hz2 hxa hrA hna hlen hlt2 hwsz
                go_wp2_with (at_builtin; refine wpList_append_run _ rfl _ _ 22 rfl _ _ rfl rfl _ _ HRB.out ?_)
                go_roundw
                case rel => exact ⟨k + 1, by omega, by go_num, XB.out, by rw [HNX.out]; have h := HFIN.out; rw [HNS.out] at h; first | exact h | (simp only [List.length_append, List.length_cons, List.length_nil]; exact h)⟩
                case measure => simp [intOf]; omega
    · obtain rfl : k = l.length := by omega
      have HFN := Lib.hid (show RowP wr (fun g => w.heap.size ≤ g) 55 2 (.slice oa (ownedL (l.take l.length)).length ocap) (ownedL l).length (attrCells (ownedL l)) by have h := HOUT.out; rw [List.take_length] at h ⊢; exact h)
      clear xr
      go_wp2_with fail
      go_ret
      exact ⟨_, rfl, XR.out, HFN.out⟩
end Go.Proofs.YtdafdoodegpdhaaDoor
