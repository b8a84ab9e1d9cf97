/- Package dom: anew (a text, in UTF-8): what it answers. Conditions: at most 100000 bytes. -/
import Derived.Test.YtiglflmjidikpaaDomE
import Derived.Laws.Cover4
import Derived.Laws.IdiomStrings
namespace Go.Proofs.Ytiglflmjidikpaa
open Go Go.RowKit Go.BigFrame
set_option linter.unusedVariables false

def runeList (s : ByteArray) : Nat → Nat → List Int
  | 0, _ => []
  | b + 1, i => if i < s.size then Int.ofNat (Utf8.decode s i).1 :: runeList s b (i + (Utf8.decode s i).2) else []
/-- a text, written anew in UTF-8 -/
def anewB (s : ByteArray) : ByteArray := runesBytes (runeList s s.size 0)
theorem runesFrom_eq (s : ByteArray) : ∀ (b i : Nat) (acc : Array Value), Conv.runesFrom s b i acc = acc ++ ((runeList s b i).map (Value.int .i32)).toArray := by
  intro b
  induction b with
  | zero => intro i acc; simp [Conv.runesFrom, runeList]
  | succ b ih =>
    intro i acc
    unfold Conv.runesFrom runeList
    split
    · show Conv.runesFrom s b (i + (Utf8.decode s i).2) (acc.push (.int .i32 (Int.ofNat (Utf8.decode s i).1))) = _
      rw [ih]; simp
    · simp
theorem runeList_len (s : ByteArray) : ∀ (b i : Nat), (runeList s b i).length ≤ b := by
  intro b
  induction b with
  | zero => intro i; simp [runeList]
  | succ b ih =>
    intro i
    unfold runeList
    split
    · have := ih (i + (Utf8.decode s i).2); simp; omega
    · simp
theorem anewB_size (s : ByteArray) : (anewB s).size ≤ 4 * s.size := by
  have h1 := runesBytes_size_le (runeList s s.size 0)
  have h2 := runeList_len s s.size 0
  unfold anewB; omega

def Rune (n : Nat) (s : ByteArray) : Prop := (Conv.runesFrom s s.size 0 #[]).size = n
set_option maxRecDepth 20000 in
set_option maxHeartbeats 400000 in
theorem anew_any (s : ByteArray) (hs : s.size ≤ 100000) (w : World) : Calls Try.prog 87 #[.string s] w (RVal (.string (anewB s)) w) := by
  have h1 := run_runes_of_string (P := Try.prog) w 9 145 21 s Try.underlying9 Try.underlying145 Try.underlying21 (by have := size_runesFrom s s.size 0 #[]; simp at this; omega)
  have e1 : Conv.runesFrom s s.size 0 #[] = ((runeList s s.size 0).map (Value.int .i32)).toArray := by rw [runesFrom_eq]; simp
  have hz : anewB s = runesBytes (runeList s s.size 0) := rfl
  have HZ := Lib.hid hz
  rw [e1] at h1
  clear hz e1 hs
  generalize runeList s s.size 0 = l at *
  generalize hk : grownCap w (List.map (Value.int IntKind.i32) l).toArray.size 0 21 = K at *
  have hge := grownCap_ge w (List.map (Value.int IntKind.i32) l).toArray.size 0 21
  rw [hk] at hge
  clear hk
  generalize hC : (List.map (Value.int IntKind.i32) l).toArray ++ Array.replicate (K - (List.map (Value.int IntKind.i32) l).toArray.size) (Value.int IntKind.i32 0) = C at *
  have h2 := run_convert_runes (P := Try.prog) (w.drew.alloc (.cells C 21)) 145 9 21 ⟨w.heap.size, 0, none⟩ l.length K l (Nat.le_refl _) Try.underlying145 Try.underlying21 Try.underlying9
    (by
      intro j hj
      have hb : (w.drew.alloc (.cells C 21)).heap[w.heap.size]? = some (.cells C 21 (0, 0)) := heap_alloc_new w.drew _
      rw [Addr.add_lit, Nat.zero_add]
      refine cellOf hb ?_
      rw [← hC, Array.getElem?_append_left (by simpa using hj)]
      simp [hj])
  rw [List.take_length] at h2
  simp only [List.size_toArray, List.length_map] at h1
  clear hC hge
  have HH1 := Lib.hid h1
  have HH2 := Lib.hid h2
  clear h1 h2
  go_enter Try.func87, Try.ntmps87
  go_wp2_with fail
  rw [HH1.out]
  go_wp2_with fail
  have h2' : Sem.run Try.prog (convert 145 9 (Value.slice (some { block := w.heap.size, off := 0 }) l.length K)) (w.alloc (Obj.cells C 21)).drew = Result.ok (Value.string (runesBytes l)) (w.alloc (Obj.cells C 21)).drew := HH2.out
  rw [h2']
  clear h2'
  go_wp2_with fail
  go_ret
  exact ⟨by rw [HZ.out]; rfl, ((Ext.refl _).alloc _).drew⟩
end Go.Proofs.Ytiglflmjidikpaa
