/- The document's lexer: All: the tokens of any bytes. Conditions: at most 50000 bytes. -/
import Derived.Test.YtdafdoodegpdhaaGreatDoorNE
namespace Go.Proofs.YtdafdoodegpdhaaGreatDoor
open Go Go.RowKit Go.BigFrame
set_option linter.unusedVariables false
set_option linter.unusedSimpArgs false

/-- the bytes of an open text, and the row of tokens -/
structure DS (w1 : World) (raw : List UInt8) (L : List TkA) (G cap : Nat) (lv : Value) (gb : Option Nat) (w : World) : Prop where
  buf : Buf w1 (.slice (some ⟨G, 0, none⟩) raw.length cap) raw w
  row : DL w1.heap.size G L lv gb w
section
variable {w1 w w' : World} {raw : List UInt8} {L : List TkA} {G cap : Nat} {lv : Value} {gb : Option Nat}
theorem DS.sz (h : DS w1 raw L G cap lv gb w) : w1.heap.size ≤ w.heap.size := h.buf.ex.size
theorem DS.lt (h : DS w1 raw L G cap lv gb w) : w1.heap.size ≤ G ∧ G < w.heap.size := by
  obtain ⟨g, c, cur, fz, e, h1, h2, _⟩ := h.buf.at
  cases e
  exact ⟨h1, (Array.getElem?_eq_some_iff.1 h2).1⟩
theorem DS.ext (h : DS w1 raw L G cap lv gb w) (k : Ext w w') : DS w1 raw L G cap lv gb w' := ⟨h.buf.ext k, h.row.ext k⟩
theorem DS.push (h : DS w1 raw L G cap lv gb w) (hlen : L.length ≤ 1000000) (p : TkA) (hone : p.2.oneCell' = true)
    (hav : RowP w (fun g => w1.heap.size ≤ g ∧ g ≠ G ∧ gb ≠ some g ∧ g < w.heap.size) 72 2 p.2 p.1.attrs.length (attrCells p.1.attrs)) {cs : Array Value} (hcs : cs.toList = tkC p) :
    ∃ (v : Value) (wB : World) (gb' : Option Nat), (Builtin.append_ #[23, 23] 23 #[lv, .slice (some ⟨w.heap.size, 0, none⟩) 1 1]).run Tryz.prog (w.alloc (.cells cs 30)) = .ok v wB ∧
      Mv (fun g => gb = some g) w wB ∧ DS w1 raw (L ++ [p]) G cap v gb' wB ∧ ∀ g, gb' = some g → gb = some g ∨ w.heap.size ≤ g := by
  obtain ⟨a, c, wB, hr, hm, gb', hd, hg⟩ := h.row.push hlen h.lt.2 h.sz p hone hav hcs
  exact ⟨_, wB, gb', hr, hm, ⟨h.buf.mv hm (fun e => (h.row.blk _ e).2.2 rfl) (fun g e => (h.row.blk _ e).2.1), hd⟩, hg⟩
theorem DS.fresh (h : DS w1 raw L G cap lv gb w) : DS w1 [] L w.heap.size 0 lv gb (w.alloc (.cells #[] 5)) :=
  ⟨(Buf.new w).base h.buf.ex, (h.row.other (.inr (Nat.le_refl _))).ext ((Ext.refl w).alloc _)⟩
theorem DS.byte (h : DS w1 raw L G cap lv gb w) {o : Obj} {c : UInt8} {G' cap' : Nat} (hb : Buf w1 (.slice (some ⟨G', 0, none⟩) (raw ++ [c]).length cap') (raw ++ [c]) w')
    (ho : Oth (.slice (some ⟨G, 0, none⟩) raw.length cap) (.slice (some ⟨G', 0, none⟩) (raw ++ [c]).length cap') (w.alloc o) w') : DS w1 (raw ++ [c]) L G' cap' lv gb w' :=
  ⟨hb, (h.row.ext ((Ext.refl w).alloc o)).oth ho rfl⟩
/-- attributes in memory that is newer -/
theorem DS.av (h : DS w1 raw L G cap lv gb w) {e size : Nat} {v : Value} {n : Nat} {xs : List Value} (hr : RowP w' (fun g => w.heap.size ≤ g) e size v n xs) : RowP w' (fun g => w1.heap.size ≤ g ∧ g ≠ G ∧ gb ≠ some g ∧ g < w'.heap.size) e size v n xs :=
  RowP.imp hr.full fun g _ hg => ⟨Nat.le_trans h.sz hg.1, fun e => by have := h.lt.2; have := hg.1; omega, fun e => by have := (h.row.blk g e).1; have := hg.1; omega, hg.2⟩
end
/-- what the document's All keeps -/
def DRel (w1 : World) (t : ByteArray) (gf : Nat) (lv rv fv tv av : Value) (wr : World) : Prop :=
  ∃ (raw : List UInt8) (a b j : Nat) (L : List TkA) (gb : Option Nat) (G cap : Nat), j ≤ t.size ∧ rv = .slice (some ⟨G, 0, none⟩) raw.length cap ∧ fv = .int .i64 (a : Int) ∧ tv = .int .i64 (b : Int) ∧ av = .int .i64 (j : Int) ∧
    DS w1 raw L G cap lv gb wr ∧ t.size + 1 - j ≤ gf ∧ L.map Prod.fst ++ (lexL t.size raw a b (t.data.toList.drop j)).map Tk.fin = tokens t.data.toList ∧
    L.length + (t.size - j) + (if raw = [] then 0 else 1) ≤ t.size ∧ raw.length + (t.size - j) ≤ t.size
theorem fin_text (raw : List UInt8) (a b : Nat) : Tk.fin ⟨1, [], raw, [], false, a, b⟩ = ⟨1, [], decT raw, [], false, a, b⟩ := rfl
theorem tagL_hi {N : Nat} {r e : List UInt8} {t : Tk} (h : tagL N r = some (t, e)) : t.hi = N - e.length ∧ t.attrs.length ≤ r.length := by
  have h1 := (suf_drop alnumB (tagR r)).trans (tagR_suf r)
  have h2 := h1.length_le
  rw [List.length_drop] at h2
  unfold tagL at h
  by_cases hl0 : headP letterB (tagR r) = true
  · rw [if_pos hl0] at h
    by_cases hcl : closeB r = true
    · rw [if_pos hcl] at h
      unfold closeL at h
      split at h
      · cases h
      · cases h; exact ⟨rfl, Nat.zero_le _⟩
    · rw [if_neg hcl] at h
      unfold openL at h
      cases hx : partsL ((tagR r).dropWhile alnumB) with
      | none => rw [hx] at h; cases h
      | some x =>
        rw [hx] at h
        have h3 := (partsL_ok _ _ _ (Nat.le_refl _) hx).2
        have h4 := ownedF_len x.1 []
        cases h
        refine ⟨rfl, ?_⟩
        show (ownedF [] x.1).length ≤ r.length
        omega
  · rw [if_neg hl0] at h
    cases h
set_option maxHeartbeats 8000000 in
set_option maxRecDepth 100000 in
theorem rAll_any (s : ByteArray) (hs : s.size ≤ 50000) (w : World) : Calls Tryz.prog 6 #[.string s] w (RAll (anewB s) w) := by
  have HA := Lib.hid (Anew_big s (by omega) w)
  obtain ⟨t, ht⟩ : ∃ t, anewB s = t := ⟨_, rfl⟩
  rw [ht] at HA ⊢
  clear ht hs
  go_enter Tryz.func6, Tryz.ntmps6
  go_wp2_with (go_at_call 15; refine HA.out.mono ?_)
  rintro e w1 ⟨rfl, x1⟩
  have X1 := Lib.hid x1
  clear x1 HA
  by_cases hlong : 8192 < t.size
  · have hli : decide ((8192 : Int) < (t.size : Int)) = true := decide_eq_true (by omega)
    have hln : decide (8192 < t.size) = true := decide_eq_true hlong
    have HLO := Lib.hid hlong
    clear hlong
    go_wp2_with fail
    go_ret2
    exact .inl ⟨HLO.out, rfl, X1.out⟩
  have hli : decide ((8192 : Int) < (t.size : Int)) = false := decide_eq_false (by omega)
  have hln : decide (8192 < t.size) = false := decide_eq_false hlong
  have h81 : t.size ≤ 8192 := by omega
  have H81 := Lib.hid h81
  have hds0 : DS w1 [] [] w1.heap.size 0 (.slice none 0 0) none (w1.alloc (.cells #[] 5)) :=
    ⟨Buf.new w1, ⟨⟨rfl, .inl ⟨rfl, none, rfl⟩⟩, fun z hz => (by cases hz), fun p hp => (by cases hp)⟩⟩
  have HDS0 := Lib.hid hds0
  clear hlong hds0
  go_upto_region 6 with fail
  obtain ⟨w2, hw2⟩ : ∃ w' : World, w' = w1.alloc (.cells #[] 5) := ⟨_, rfl⟩
  rw [← hw2] at HDS0 ⊢
  clear hw2 hli hln
  go_wp2_with fail
  go_loopg [4, 5, 6, 7, 8, 9, 10, 11] (t.size + 2) (fun gf lv rv fv tv av _ _ _ wr => DRel w1 t gf lv rv fv tv av wr)
  case atStart => exact ⟨[], 0, 0, 0, [], none, w1.heap.size, 0, Nat.zero_le _, rfl, rfl, rfl, rfl, HDS0.out, by omega, rfl, by rw [if_pos rfl, List.length_nil]; omega, by rw [List.length_nil]; omega⟩
  case round =>
    obtain ⟨raw, a, b, j, L, gb, G, cap, hj, rfl, rfl, rfl, rfl, hds, hgf, hlex, hll, hrl⟩ := hrel
    have HDS := Lib.hid hds
    have HGF := Lib.hid hgf
    have HLEX := Lib.hid hlex
    have HLL := Lib.hid hll
    have HRL := Lib.hid hrl
    obtain ⟨rl, hrle⟩ : ∃ n, raw.length = n := ⟨_, rfl⟩
    rw [hrle]
    have HRLE := Lib.hid hrle
    have HJ := Lib.hid hj
    have ej : decide ((j : Int) ≤ (t.size : Int)) = true := decide_eq_true (by omega)
    have ejn : decide (j ≤ t.size) = true := decide_eq_true hj
    clear hds hgf hlex hll hrl hrle
    have x9 := (Ext.refl wr).alloc (.cells #[.int .i64 0, .string ⟨#[]⟩, .string ⟨#[]⟩, .slice none 0 0, .int .i64 0, .int .i64 0, .int .i64 0] 30)
    have hb9 := heap_alloc_new wr (.cells #[.int .i64 0, .string ⟨#[]⟩, .string ⟨#[]⟩, .slice none 0 0, .int .i64 0, .int .i64 0, .int .i64 0] 30)
    go_upto_region 10 with fail
    obtain ⟨w9, hw9⟩ : ∃ w' : World, w' = wr.alloc (.cells #[.int .i64 0, .string ⟨#[]⟩, .string ⟨#[]⟩, .slice none 0 0, .int .i64 0, .int .i64 0, .int .i64 0] 30) := ⟨_, rfl⟩
    rw [← hw9] at x9 hb9 ⊢
    clear hw9
    obtain ⟨tb, htb⟩ : ∃ z, wr.heap.size = z := ⟨_, rfl⟩
    rw [htb] at hb9 ⊢
    have HTB := Lib.hid htb
    have B9 := Lib.hid hb9
    have HDS9 := Lib.hid (HDS.out.ext x9)
    have X9 := Lib.hid x9
    clear x9 hb9 htb
    by_cases hjs : j < t.size
    · obtain ⟨c, hcl, -⟩ := at_idx t j hjs
      have hix := idx_of t j c hcl
      have HDR := Lib.hid (drop_at hcl)
      have HCL := Lib.hid hcl
      have e0 : decide ((j : Int) < (t.size : Int)) = true := decide_eq_true (by omega)
      have e0n : decide (j < t.size) = true := decide_eq_true hjs
      have e1 : ((j : Int) == (t.size : Int)) = false := by rw [beq_eq_false_iff_ne]; omega
      have e1n : (j == t.size) = false := by rw [beq_eq_false_iff_ne]; omega
      have hw1 : IntKind.i64.wrap ((j : Int) + 1) = (j : Int) + 1 := IntWalk.i64_in _ (by omega)
      clear hcl
      by_cases hc : c = 60
      · subst hc
        have HNOTE := Lib.hid (fun W => rNote_any t j (by omega) (by omega) W)
        have HTAG := Lib.hid (fun W => rTag_any t j W (by omega) HCL.out)
        cases hno : noteL (t.data.toList.drop j) with
        | some e5 =>
          have h1 := noteL_suf hno
          have hdl : (t.data.toList.drop j).length = t.size - j := List.length_drop
          obtain ⟨j2, hj2⟩ : ∃ n, t.size - e5.length = n := ⟨_, rfl⟩
          have hsuf : e5 = t.data.toList.drop j2 := by
            have h := List.suffix_iff_eq_drop.1 (h1.1.trans (List.drop_suffix j _))
            rw [show t.data.toList.length = t.size from rfl, hj2] at h
            exact h
          have hjj : j < j2 ∧ j2 ≤ t.size := by have := h1.2; omega
          have HLX : Hid (lexL t.size raw a b (t.data.toList.drop j) = lexL t.size raw a b (t.data.toList.drop j2)) := Lib.hid (by
            rw [← hsuf, HDR.out]
            exact lexL_note (by rw [← HDR.out]; exact hno))
          have hz : noteZ t (some e5) = (j2 : Int) := by
            show ((t.size - e5.length : Nat) : Int) = _
            rw [hj2]
          rw [hno, hz] at HNOTE
          have k0 : decide ((0 : Int) ≤ (j2 : Int)) = true := decide_eq_true (by omega)
          have HJJ := Lib.hid hjj
          clear h1 hdl hj2 hsuf hjj hz hno HTAG
          go_wp2_with (go_at_call 16; refine (HNOTE.out _).mono ?_)
          rintro e w3 ⟨rfl, x3⟩
          have D3 := Lib.hid (HDS9.out.ext x3)
          clear x3
          go_wp2_with fail
          obtain ⟨g', rfl⟩ : ∃ g', gk = g' + 1 := ⟨gk - 1, by have := HGF.out; omega⟩
          go_roundg g'
          case measure => omega
          case rel =>
            have h1 := HJJ.out; have h2 := HGF.out; have h3 := HLL.out; have h4 := HRL.out
            exact ⟨raw, a, b, j2, L, gb, G, cap, h1.2, by rw [HRLE.out], rfl, rfl, rfl, D3.out, by omega, by rw [← HLX.out]; exact HLEX.out, by omega, by omega⟩
        | none =>
          rw [hno] at HNOTE
          have hz : noteZ t none = -1 := rfl
          rw [hz] at HNOTE
          clear hz
          go_wp2_with (go_at_call 16; refine (HNOTE.out _).mono ?_)
          rintro e w3 ⟨rfl, x3⟩
          have X3 := Lib.hid (X9.out.trans x3)
          have B3 := Lib.hid (x3.block B9.out)
          clear x3 HNOTE
          cases hta : tagL t.size (t.data.toList.drop j) with
          | some te =>
            obtain ⟨tk, e5⟩ := te
            have h1 := tagL_len hta
            have h2 := tagL_hi hta
            have h3 := tagL_text hta
            have hdl : (t.data.toList.drop j).length = t.size - j := List.length_drop
            have hsuf : e5 = t.data.toList.drop tk.hi := by
              have h := List.suffix_iff_eq_drop.1 (h1.1.trans (List.drop_suffix j _))
              rw [show t.data.toList.length = t.size from rfl, ← h2.1] at h
              exact h
            have HHI := Lib.hid (show j < tk.hi ∧ tk.hi ≤ t.size by have := h1.2; omega)
            have HLX : Hid (lexL t.size raw a b (t.data.toList.drop j) = flushT raw a b ++ tk :: lexL t.size [] a b (t.data.toList.drop tk.hi)) := Lib.hid (by
              rw [← hsuf, HDR.out]
              exact lexL_tag (by rw [← HDR.out]; exact hno) (by rw [← HDR.out]; exact hta))
            have HTX : Hid (tk.fin = tk) := Lib.hid (by unfold Tk.fin; rw [if_neg h3.2])
            rw [hta] at HTAG
            clear h1 h2 h3 hdl hsuf hno hta
            go_wp2_with (go_at_call 17; refine (HTAG.out _).mono ?_)
            rintro e w8 ⟨av, rfl, m8, row8⟩
            unfold tkV
            obtain ⟨ava, avc, rfl, _⟩ := row8.rd.len_of
            obtain ⟨sz, hsz⟩ : ∃ z : Int, (if tk.self then (1 : Int) else 0) = z := ⟨_, rfl⟩
            rw [hsz]
            have HSZ := Lib.hid (show selfZ tk.self = sz from hsz)
            have b8 := m8.block B3.out (fun h => h)
            have x8 := Mv.toExt X3.out m8 (fun _ h => h.elim)
            have mS := Mv.setRow (S := (· = tb)) (Mv.refl (· = tb) w8) (b := tb) (fun _ => rfl) #[.int .i64 tk.kind, .string (bs tk.name), .string (bs tk.text), (.slice ava tk.attrs.length avc), .int .i64 sz, .int .i64 (tk.lo : Int), .int .i64 (tk.hi : Int)]
            have XR := Lib.hid (Mv.toExt x8 mS (fun g hg => by have hg' : g = tb := hg; have := HTB.out; omega))
            have BT := Lib.hid (heap_setRow_same (vs := #[.int .i64 tk.kind, .string (bs tk.name), .string (bs tk.text), (.slice ava tk.attrs.length avc), .int .i64 sz, .int .i64 (tk.lo : Int), .int .i64 (tk.hi : Int)]) b8)
            have HAV := Lib.hid ((HDS.out.ext X3.out).av (row8.mv mS (fun g hg => by have hg' : w3.heap.size ≤ g := hg; have := (Array.getElem?_eq_some_iff.1 B3.out).1; show ¬ g = tb; omega)))
            clear hsz x8 mS m8 row8
            go_upto_region 15 with (refine wpList_storeRow rfl rfl rfl rfl b8 sizeTok rfl (tkOne _ _ _ _ _ _ _ rfl rfl rfl rfl rfl rfl rfl) ?_)
            obtain ⟨wc, hwc⟩ : ∃ W : World, W = w8.setRow tb #[.int .i64 tk.kind, .string (bs tk.name), .string (bs tk.text), (.slice ava tk.attrs.length avc), .int .i64 sz, .int .i64 (tk.lo : Int), .int .i64 (tk.hi : Int)] := ⟨_, rfl⟩
            rw [← hwc] at XR BT HAV ⊢
            clear hwc b8
            by_cases hraw : raw = []
            · have HLL0 : Hid (L.length + (t.size - j) ≤ t.size) := Lib.hid (by have h := HLL.out; rw [if_pos hraw] at h; exact h)
              subst hraw
              obtain rfl : rl = 0 := HRLE.out.symm
              have HRAW := Lib.hid (rfl : ([] : List UInt8) = [])
              have D2 := Lib.hid (HDS.out.ext XR.out)
              have B2 := BT
              have AV2 := HAV
              have NT : Hid (¬ gb = some tb) := Lib.hid (fun e => by have := (HDS.out.row.blk tb e).1; have := HTB.out; omega)
              have d0 := cellOf B2.out (i := 0) (v := .int .i64 tk.kind) rfl
              have d1 := cellOf B2.out (i := 1) (v := .string (bs tk.name)) rfl
              have d2 := cellOf B2.out (i := 2) (v := .string (bs tk.text)) rfl
              have d3 := cellOf B2.out (i := 3) (v := .slice ava tk.attrs.length avc) rfl
              have d4 := cellOf B2.out (i := 4) (v := .int .i64 sz) rfl
              have d5 := cellOf B2.out (i := 5) (v := .int .i64 (tk.lo : Int)) rfl
              have d6 := cellOf B2.out (i := 6) (v := .int .i64 (tk.hi : Int)) rfl
              obtain ⟨lv3, wC, gb3, hrun3, hm3, D3, -⟩ := D2.out.push (by have := HLL.out; have := H81.out; first | omega | (rw [List.length_append, List.length_cons, List.length_nil]; omega)) (tk, .slice ava tk.attrs.length avc) rfl AV2.out (cs := #[.int .i64 tk.kind, .string (bs tk.name), .string (bs tk.text), (.slice ava tk.attrs.length avc), .int .i64 sz, .int .i64 (tk.lo : Int), .int .i64 (tk.hi : Int)]) (by rw [← HSZ.out]; rfl)
              have dC := cellOf (hm3.block B2.out NT.out) (i := 6) (v := .int .i64 (tk.hi : Int)) rfl
              have HRUN3 := Lib.hid hrun3
              have HD3 := Lib.hid D3
              clear hrun3 hm3 D3
              go_wp2_with (at_builtin; refine wpList_append_run _ rfl _ _ 23 rfl _ _ rfl rfl _ _ HRUN3.out ?_)
              obtain ⟨g', rfl⟩ : ∃ g', gk = g' + 1 := ⟨gk - 1, by have := HGF.out; omega⟩
              go_roundg g'
              case measure => omega
              case rel =>
                have h1 := HHI.out; have h2 := HGF.out; have h3 := HLL0.out; have h4 := HRL.out; have h5 := HRAW.out
                refine ⟨[], a, b, tk.hi, _, gb3, _, _, by omega, rfl, rfl, rfl, rfl, HD3.out, by omega, ?_, ?_, ?_⟩
                · have h := HLEX.out
                  rw [HLX.out, flush_nil, List.nil_append] at h
                  rw [← h]
                  simp [HTX.out, fin_text]
                · rw [if_pos rfl, List.length_append, List.length_cons, List.length_nil]
                  omega
                · rw [List.length_nil]
                  omega
            · have r0 : decide ((0 : Int) < (rl : Int)) = true := decide_eq_true (by have := List.length_pos_iff.2 hraw; rw [HRLE.out] at this; omega)
              have r0n : decide (0 < rl) = true := decide_eq_true (by have := List.length_pos_iff.2 hraw; rw [HRLE.out] at this; omega)
              have HRAW := Lib.hid hraw
              have HLL0 : Hid (L.length + (t.size - j) + 1 ≤ t.size) := Lib.hid (by have h := HLL.out; rw [if_neg hraw] at h; exact h)
              clear hraw
              have D0 := Lib.hid (HDS.out.ext XR.out)
              have HCV := Lib.hid (show (Go.convert 42 9 (.slice (some ⟨G, 0, none⟩) rl cap)).run Tryz.prog wc = .ok (.string (bs raw)) wc by have h := run_ofBytes D0.out.buf; rw [HRLE.out] at h; exact h)
              have HDE := Lib.hid (fun W => rdecode_bs raw (by have := HRL.out; have := H81.out; omega) W)
              go_upto_region 16 with fail
              go_wp2_with fail
              rw [HCV.out]
              go_wp2_with (go_at_call 18; refine (HDE.out _).mono ?_)
              rintro e w10 ⟨rfl, x10⟩
              have D10 := D0.out.ext x10
              have B10 := x10.block BT.out
              have S10 := x10.size
              have hgbt : ∀ g, gb = some g → g < wr.heap.size := fun g hg => (HDS.out.row.blk g hg).1
              obtain ⟨lv2, wB, gb2, hrun, hm, D11, hgb2⟩ := D10.push (by have := HLL.out; have := H81.out; omega) (⟨1, [], decT raw, [], false, a, b⟩, .slice none 0 0) rfl ⟨rfl, .inl ⟨rfl, none, rfl⟩⟩ (cs := #[.int .i64 1, .string ⟨#[]⟩, .string (bs (decT raw)), .slice none 0 0, .int .i64 0, .int .i64 (a : Int), .int .i64 (b : Int)]) rfl
              have BB := hm.block B10 (fun e => by have := hgbt tb e; have := HTB.out; omega)
              have SB := hm.size
              have D12 := D11.fresh
              have B12 := ((Ext.refl wB).alloc (.cells #[] 5)).block BB
              have AV12 := RowP.imp ((((HAV.out.ext x10).mv hm (fun g hg e => hg.2.2.1 e)).ext ((Ext.refl wB).alloc (.cells #[] 5))).full) (q := fun g => w1.heap.size ≤ g ∧ g ≠ wB.heap.size ∧ gb2 ≠ some g ∧ g < (wB.alloc (.cells #[] 5)).heap.size) (fun g _ hg => ⟨hg.1.1, by have := hg.1.2.2.2; omega, fun e => by rcases hgb2 g e with h | h; exact hg.1.2.2.1 h; have := hg.1.2.2.2; omega, hg.2⟩)
              obtain ⟨w12, hw12⟩ : ∃ W : World, W = wB.alloc (.cells #[] 5) := ⟨_, rfl⟩
              rw [← hw12] at D12 B12 AV12
              have HW12 := Lib.hid hw12
              obtain ⟨G2, hG2⟩ : ∃ g, wB.heap.size = g := ⟨_, rfl⟩
              rw [hG2] at D12 AV12
              have HG2 := Lib.hid hG2
              have HRUN := Lib.hid hrun
              have D2 := Lib.hid D12
              have B2 := Lib.hid B12
              have AV2 := Lib.hid AV12
              have NT : Hid (¬ gb2 = some tb) := Lib.hid (fun e => by have h9 := (Array.getElem?_eq_some_iff.1 B10).1; rcases hgb2 tb e with h | h; have := hgbt tb h; have := HTB.out; omega; omega)
              clear AV12
              clear x10 D10 B10 S10 hrun hm D11 hgb2 hgbt BB SB D12 B12 hw12 hG2
              go_upto_region 18 with (at_builtin; refine wpList_append_run _ rfl _ _ 23 rfl _ _ rfl rfl _ _ HRUN.out ?_)
              rw [HG2.out, ← HW12.out]
              have d0 := cellOf B2.out (i := 0) (v := .int .i64 tk.kind) rfl
              have d1 := cellOf B2.out (i := 1) (v := .string (bs tk.name)) rfl
              have d2 := cellOf B2.out (i := 2) (v := .string (bs tk.text)) rfl
              have d3 := cellOf B2.out (i := 3) (v := .slice ava tk.attrs.length avc) rfl
              have d4 := cellOf B2.out (i := 4) (v := .int .i64 sz) rfl
              have d5 := cellOf B2.out (i := 5) (v := .int .i64 (tk.lo : Int)) rfl
              have d6 := cellOf B2.out (i := 6) (v := .int .i64 (tk.hi : Int)) rfl
              obtain ⟨lv3, wC, gb3, hrun3, hm3, D3, -⟩ := D2.out.push (by have := HLL.out; have := H81.out; first | omega | (rw [List.length_append, List.length_cons, List.length_nil]; omega)) (tk, .slice ava tk.attrs.length avc) rfl AV2.out (cs := #[.int .i64 tk.kind, .string (bs tk.name), .string (bs tk.text), (.slice ava tk.attrs.length avc), .int .i64 sz, .int .i64 (tk.lo : Int), .int .i64 (tk.hi : Int)]) (by rw [← HSZ.out]; rfl)
              have dC := cellOf (hm3.block B2.out NT.out) (i := 6) (v := .int .i64 (tk.hi : Int)) rfl
              have HRUN3 := Lib.hid hrun3
              have HD3 := Lib.hid D3
              clear hrun3 hm3 D3
              go_wp2_with (at_builtin; refine wpList_append_run _ rfl _ _ 23 rfl _ _ rfl rfl _ _ HRUN3.out ?_)
              obtain ⟨g', rfl⟩ : ∃ g', gk = g' + 1 := ⟨gk - 1, by have := HGF.out; omega⟩
              go_roundg g'
              case measure => omega
              case rel =>
                have h1 := HHI.out; have h2 := HGF.out; have h3 := HLL0.out; have h4 := HRL.out; have h5 := HRAW.out
                refine ⟨[], a, b, tk.hi, _, gb3, _, _, by omega, rfl, rfl, rfl, rfl, HD3.out, by omega, ?_, ?_, ?_⟩
                · have h := HLEX.out
                  rw [HLX.out, flush_some h5] at h
                  rw [← h]
                  simp [HTX.out, fin_text]
                · rw [if_pos rfl, List.length_append, List.length_cons, List.length_nil, List.length_append, List.length_cons, List.length_nil]
                  omega
                · rw [List.length_nil]
                  omega
          | none =>
            rw [hta] at HTAG
            have HCH := Lib.hid (lexL_char (N := t.size) (raw := raw) (a := a) (b := b) (c := 60) (q := t.data.toList.drop (j + 1)) (.inr ⟨by rw [← HDR.out]; exact hno, by rw [← HDR.out]; exact hta⟩))
            clear hno hta
            go_wp2_with (go_at_call 17; refine (HTAG.out _).mono ?_)
            rintro e w8 ⟨kd, nm, tx, aa, ac, z, lo, hi, rfl, m8⟩
            unfold tkV
            have b8 := m8.block B3.out (fun h => h)
            have x8 := Mv.toExt X3.out m8 (fun _ h => h.elim)
            have mS := Mv.setRow (S := (· = tb)) (Mv.refl (· = tb) w8) (b := tb) (fun _ => rfl) #[.int .i64 kd, .string (bs nm), .string (bs tx), (.slice aa 0 ac), .int .i64 z, .int .i64 lo, .int .i64 hi]
            have XR := Lib.hid (Mv.toExt x8 mS (fun g hg => by have hg' : g = tb := hg; have := HTB.out; omega))
            clear x8 mS m8
            go_upto_region 15 with (refine wpList_storeRow rfl rfl rfl rfl b8 sizeTok rfl (tkOne _ _ _ _ _ _ _ rfl rfl rfl rfl rfl rfl rfl) ?_)
            obtain ⟨wc, hwc⟩ : ∃ W : World, W = w8.setRow tb #[.int .i64 kd, .string (bs nm), .string (bs tx), (.slice aa 0 ac), .int .i64 z, .int .i64 lo, .int .i64 hi] := ⟨_, rfl⟩
            rw [← hwc] at XR ⊢
            clear hwc b8
            by_cases hraw : raw = []
            · obtain rfl : rl = 0 := by rw [← HRLE.out, hraw]; rfl
              have HRAW := Lib.hid hraw
              clear hraw
              have D0 := Lib.hid (HDS.out.ext XR.out)
              have HB0 : Hid (Buf w1 (.slice (some ⟨G, 0, none⟩) 0 cap) raw wc) := Lib.hid (by have h := D0.out.buf; rw [HRLE.out] at h; exact h)
              have HLEN : Hid (raw.length + 1 ≤ 140737488355328) := Lib.hid (by have := HRL.out; have := H81.out; omega)
              go_wp2_with (at_builtin; refine wpB_byte2 rfl _ _ rfl (.slice (some ⟨G, 0, none⟩) 0 cap) raw rfl w1 HB0.out 60 _ rfl rfl HLEN.out ?_)
              intro v' w' hb' ho'
              obtain ⟨G', cap', _, _, rfl, _, _, _⟩ := hb'.at
              have D2 := Lib.hid (D0.out.byte hb' (by rw [HRLE.out]; exact ho'))
              clear hb' ho'
              go_wp2_with fail
              obtain ⟨g', rfl⟩ : ∃ g', gk = g' + 1 := ⟨gk - 1, by have := HGF.out; omega⟩
              go_roundg g'
              case measure => omega
              case rel =>
                have h1 := HJ.out; have h2 := HGF.out; have h3 := HLL.out; have h4 := HRL.out; have h5 := HRAW.out
                refine ⟨raw ++ [60], j, j + 1, j + 1, L, gb, G', cap', by omega, rfl, by first | rfl | (push_cast; rfl), by first | rfl | (push_cast; rfl), by first | rfl | (push_cast; rfl), D2.out, by omega, ?_, ?_, ?_⟩
                · have h := HLEX.out
                  rw [HDR.out, HCH.out, List.length_drop, show t.data.toList.length = t.size from rfl, show t.size - (t.size - (j + 1) + 1) = j by omega, show t.size - (t.size - (j + 1)) = j + 1 by omega, if_pos h5] at h
                  exact h
                · rw [if_neg (by simp)]
                  rw [if_pos h5] at h3
                  omega
                · rw [List.length_append, List.length_cons, List.length_nil]
                  omega
            · have r0 : decide ((0 : Int) < (rl : Int)) = true := decide_eq_true (by have := List.length_pos_iff.2 hraw; rw [HRLE.out] at this; omega)
              have r0n : decide (0 < rl) = true := decide_eq_true (by have := List.length_pos_iff.2 hraw; rw [HRLE.out] at this; omega)
              have r1 : ((rl : Int) == 0) = false := by rw [beq_eq_false_iff_ne]; have := List.length_pos_iff.2 hraw; rw [HRLE.out] at this; omega
              have r1n : (rl == 0) = false := by rw [beq_eq_false_iff_ne]; have := List.length_pos_iff.2 hraw; rw [HRLE.out] at this; omega
              have HRAW := Lib.hid hraw
              clear hraw
              have D0 := Lib.hid (HDS.out.ext XR.out)
              have HB0 : Hid (Buf w1 (.slice (some ⟨G, 0, none⟩) rl cap) raw wc) := Lib.hid (by have h := D0.out.buf; rw [HRLE.out] at h; exact h)
              have HLEN : Hid (raw.length + 1 ≤ 140737488355328) := Lib.hid (by have := HRL.out; have := H81.out; omega)
              go_wp2_with (at_builtin; refine wpB_byte2 rfl _ _ rfl (.slice (some ⟨G, 0, none⟩) rl cap) raw rfl w1 HB0.out 60 _ rfl rfl HLEN.out ?_)
              intro v' w' hb' ho'
              obtain ⟨G', cap', _, _, rfl, _, _, _⟩ := hb'.at
              have D2 := Lib.hid (D0.out.byte hb' (by rw [HRLE.out]; exact ho'))
              clear hb' ho'
              go_wp2_with fail
              obtain ⟨g', rfl⟩ : ∃ g', gk = g' + 1 := ⟨gk - 1, by have := HGF.out; omega⟩
              go_roundg g'
              case measure => omega
              case rel =>
                have h1 := HJ.out; have h2 := HGF.out; have h3 := HLL.out; have h4 := HRL.out; have h5 := HRAW.out
                refine ⟨raw ++ [60], a, j + 1, j + 1, L, gb, G', cap', by omega, rfl, by first | rfl | (push_cast; rfl), by first | rfl | (push_cast; rfl), by first | rfl | (push_cast; rfl), D2.out, by omega, ?_, ?_, ?_⟩
                · have h := HLEX.out
                  rw [HDR.out, HCH.out, List.length_drop, show t.data.toList.length = t.size from rfl, show t.size - (t.size - (j + 1) + 1) = j by omega, show t.size - (t.size - (j + 1)) = j + 1 by omega, if_neg h5] at h
                  exact h
                · rw [if_neg (by simp)]
                  rw [if_neg h5] at h3
                  omega
                · rw [List.length_append, List.length_cons, List.length_nil]
                  omega
      · have f60 : ((c.toNat : Int) == 60) = false := (u8_eq c 60).trans (beq_eq_false_iff_ne.2 hc)
        have HCH := Lib.hid (lexL_char (N := t.size) (raw := raw) (a := a) (b := b) (q := t.data.toList.drop (j + 1)) (.inl hc))
        clear hc
        have XR := X9
        obtain ⟨wc, hwc⟩ : ∃ W : World, W = w9 := ⟨_, rfl⟩
        rw [← hwc] at XR ⊢
        clear hwc
        by_cases hraw : raw = []
        · obtain rfl : rl = 0 := by rw [← HRLE.out, hraw]; rfl
          have HRAW := Lib.hid hraw
          clear hraw
          have D0 := Lib.hid (HDS.out.ext XR.out)
          have HB0 : Hid (Buf w1 (.slice (some ⟨G, 0, none⟩) 0 cap) raw wc) := Lib.hid (by have h := D0.out.buf; rw [HRLE.out] at h; exact h)
          have HLEN : Hid (raw.length + 1 ≤ 140737488355328) := Lib.hid (by have := HRL.out; have := H81.out; omega)
          go_wp2_with (at_builtin; refine wpB_byte2 rfl _ _ rfl (.slice (some ⟨G, 0, none⟩) 0 cap) raw rfl w1 HB0.out c _ rfl rfl HLEN.out ?_)
          intro v' w' hb' ho'
          obtain ⟨G', cap', _, _, rfl, _, _, _⟩ := hb'.at
          have D2 := Lib.hid (D0.out.byte hb' (by rw [HRLE.out]; exact ho'))
          clear hb' ho'
          go_wp2_with fail
          obtain ⟨g', rfl⟩ : ∃ g', gk = g' + 1 := ⟨gk - 1, by have := HGF.out; omega⟩
          go_roundg g'
          case measure => omega
          case rel =>
            have h1 := HJ.out; have h2 := HGF.out; have h3 := HLL.out; have h4 := HRL.out; have h5 := HRAW.out
            refine ⟨raw ++ [c], j, j + 1, j + 1, L, gb, G', cap', by omega, rfl, by first | rfl | (push_cast; rfl), by first | rfl | (push_cast; rfl), by first | rfl | (push_cast; rfl), D2.out, by omega, ?_, ?_, ?_⟩
            · have h := HLEX.out
              rw [HDR.out, HCH.out, List.length_drop, show t.data.toList.length = t.size from rfl, show t.size - (t.size - (j + 1) + 1) = j by omega, show t.size - (t.size - (j + 1)) = j + 1 by omega, if_pos h5] at h
              exact h
            · rw [if_neg (by simp)]
              rw [if_pos h5] at h3
              omega
            · rw [List.length_append, List.length_cons, List.length_nil]
              omega
        · have r0 : decide ((0 : Int) < (rl : Int)) = true := decide_eq_true (by have := List.length_pos_iff.2 hraw; rw [HRLE.out] at this; omega)
          have r0n : decide (0 < rl) = true := decide_eq_true (by have := List.length_pos_iff.2 hraw; rw [HRLE.out] at this; omega)
          have r1 : ((rl : Int) == 0) = false := by rw [beq_eq_false_iff_ne]; have := List.length_pos_iff.2 hraw; rw [HRLE.out] at this; omega
          have r1n : (rl == 0) = false := by rw [beq_eq_false_iff_ne]; have := List.length_pos_iff.2 hraw; rw [HRLE.out] at this; omega
          have HRAW := Lib.hid hraw
          clear hraw
          have D0 := Lib.hid (HDS.out.ext XR.out)
          have HB0 : Hid (Buf w1 (.slice (some ⟨G, 0, none⟩) rl cap) raw wc) := Lib.hid (by have h := D0.out.buf; rw [HRLE.out] at h; exact h)
          have HLEN : Hid (raw.length + 1 ≤ 140737488355328) := Lib.hid (by have := HRL.out; have := H81.out; omega)
          go_wp2_with (at_builtin; refine wpB_byte2 rfl _ _ rfl (.slice (some ⟨G, 0, none⟩) rl cap) raw rfl w1 HB0.out c _ rfl rfl HLEN.out ?_)
          intro v' w' hb' ho'
          obtain ⟨G', cap', _, _, rfl, _, _, _⟩ := hb'.at
          have D2 := Lib.hid (D0.out.byte hb' (by rw [HRLE.out]; exact ho'))
          clear hb' ho'
          go_wp2_with fail
          obtain ⟨g', rfl⟩ : ∃ g', gk = g' + 1 := ⟨gk - 1, by have := HGF.out; omega⟩
          go_roundg g'
          case measure => omega
          case rel =>
            have h1 := HJ.out; have h2 := HGF.out; have h3 := HLL.out; have h4 := HRL.out; have h5 := HRAW.out
            refine ⟨raw ++ [c], a, j + 1, j + 1, L, gb, G', cap', by omega, rfl, by first | rfl | (push_cast; rfl), by first | rfl | (push_cast; rfl), by first | rfl | (push_cast; rfl), D2.out, by omega, ?_, ?_, ?_⟩
            · have h := HLEX.out
              rw [HDR.out, HCH.out, List.length_drop, show t.data.toList.length = t.size from rfl, show t.size - (t.size - (j + 1) + 1) = j by omega, show t.size - (t.size - (j + 1)) = j + 1 by omega, if_neg h5] at h
              exact h
            · rw [if_neg (by simp)]
              rw [if_neg h5] at h3
              omega
            · rw [List.length_append, List.length_cons, List.length_nil]
              omega
    · have hje : j = t.size := by omega
      have e0 : decide ((j : Int) < (t.size : Int)) = false := decide_eq_false (by omega)
      have e0n : decide (j < t.size) = false := decide_eq_false hjs
      have HFIN : Hid (L.map Prod.fst ++ (flushT raw a b).map Tk.fin = tokens t.data.toList) := Lib.hid (by
        have h := HLEX.out
        rw [hje, show t.data.toList.drop t.size = [] from List.drop_eq_nil_of_le (Nat.le_refl _), lexL_nil] at h
        exact h)
      have e1 : ((j : Int) == (t.size : Int)) = true := by rw [hje]; exact beq_self_eq_true _
      have e1n : (j == t.size) = true := by rw [hje]; exact beq_self_eq_true _
      have XR := X9
      have BT := B9
      obtain ⟨wc, hwc⟩ : ∃ W : World, W = w9 := ⟨_, rfl⟩
      rw [← hwc] at XR BT ⊢
      clear hwc hje hjs
      by_cases hraw : raw = []
      · obtain rfl : rl = 0 := by rw [← HRLE.out, hraw]; rfl
        have HRAW := Lib.hid hraw
        clear hraw
        have D2 := Lib.hid (HDS.out.ext XR.out)
        go_wp2_with fail
        go_ret2
        refine .inr ⟨H81.out, _, rfl, X1.out.trans D2.out.buf.ex, ?_⟩
        have h := HFIN.out
        rw [HRAW.out, flush_nil, List.map_nil, List.append_nil] at h
        rw [← h]
        exact D2.out.row.rd
      · have r0 : decide ((0 : Int) < (rl : Int)) = true := decide_eq_true (by have := List.length_pos_iff.2 hraw; rw [HRLE.out] at this; omega)
        have r0n : decide (0 < rl) = true := decide_eq_true (by have := List.length_pos_iff.2 hraw; rw [HRLE.out] at this; omega)
        have HRAW := Lib.hid hraw
        clear hraw
        have D0 := Lib.hid (HDS.out.ext XR.out)
        have HCV := Lib.hid (show (Go.convert 42 9 (.slice (some ⟨G, 0, none⟩) rl cap)).run Tryz.prog wc = .ok (.string (bs raw)) wc by have h := run_ofBytes D0.out.buf; rw [HRLE.out] at h; exact h)
        have HDE := Lib.hid (fun W => rdecode_bs raw (by have := HRL.out; have := H81.out; omega) W)
        go_upto_region 16 with fail
        go_wp2_with fail
        rw [HCV.out]
        go_wp2_with (go_at_call 18; refine (HDE.out _).mono ?_)
        rintro e w10 ⟨rfl, x10⟩
        have D10 := D0.out.ext x10
        have B10 := x10.block BT.out
        have S10 := x10.size
        have hgbt : ∀ g, gb = some g → g < wr.heap.size := fun g hg => (HDS.out.row.blk g hg).1
        obtain ⟨lv2, wB, gb2, hrun, hm, D11, hgb2⟩ := D10.push (by have := HLL.out; have := H81.out; omega) (⟨1, [], decT raw, [], false, a, b⟩, .slice none 0 0) rfl ⟨rfl, .inl ⟨rfl, none, rfl⟩⟩ (cs := #[.int .i64 1, .string ⟨#[]⟩, .string (bs (decT raw)), .slice none 0 0, .int .i64 0, .int .i64 (a : Int), .int .i64 (b : Int)]) rfl
        have BB := hm.block B10 (fun e => by have := hgbt tb e; have := HTB.out; omega)
        have SB := hm.size
        have D12 := D11.fresh
        have B12 := ((Ext.refl wB).alloc (.cells #[] 5)).block BB
        obtain ⟨w12, hw12⟩ : ∃ W : World, W = wB.alloc (.cells #[] 5) := ⟨_, rfl⟩
        rw [← hw12] at D12 B12
        have HW12 := Lib.hid hw12
        obtain ⟨G2, hG2⟩ : ∃ g, wB.heap.size = g := ⟨_, rfl⟩
        rw [hG2] at D12
        have HG2 := Lib.hid hG2
        have HRUN := Lib.hid hrun
        have D2 := Lib.hid D12
        have B2 := Lib.hid B12
        clear x10 D10 B10 S10 hrun hm D11 hgb2 hgbt BB SB D12 B12 hw12 hG2
        go_upto_region 18 with (at_builtin; refine wpList_append_run _ rfl _ _ 23 rfl _ _ rfl rfl _ _ HRUN.out ?_)
        rw [HG2.out, ← HW12.out]
        go_wp2_with fail
        go_ret2
        refine .inr ⟨H81.out, _, rfl, X1.out.trans D2.out.buf.ex, ?_⟩
        have h := HFIN.out
        rw [flush_some HRAW.out] at h
        rw [← h]
        have h2 := D2.out.row.rd
        rw [List.map_append] at h2
        exact h2
end Go.Proofs.YtdafdoodegpdhaaGreatDoor
