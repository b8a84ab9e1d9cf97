/- Plain trees as markup, and whether one is normal. No program in sight. -/
import Derived.Test.YtdafdoodegpdhaaDoorPA
namespace Go.Proofs.YtdafdoodegpdhaaDoor
open Go
set_option linter.unusedVariables false
set_option linter.unusedSimpArgs false

def clsT (t : Int) : Int := if t < 0 ∨ 16 < t then 0 else if t = 0 then 1 else if t = 1 ∨ t = 6 ∨ t = 7 ∨ t = 8 then 2 else if 2 ≤ t ∧ t ≤ 5 ∨ t = 9 then 3 else if t = 16 then 5 else 4
def nameT (t : Int) : ByteArray :=
  if t = 1 then ⟨#[100, 105, 118]⟩ else if t = 2 then ⟨#[112]⟩ else if t = 3 then ⟨#[104, 49]⟩ else if t = 4 then ⟨#[104, 50]⟩ else if t = 5 then ⟨#[104, 51]⟩
  else if t = 6 then ⟨#[98, 108, 111, 99, 107, 113, 117, 111, 116, 101]⟩ else if t = 7 then ⟨#[117, 108]⟩ else if t = 8 then ⟨#[111, 108]⟩ else if t = 9 then ⟨#[108, 105]⟩
  else if t = 10 then ⟨#[97]⟩ else if t = 11 then ⟨#[98]⟩ else if t = 12 then ⟨#[105]⟩ else if t = 13 then ⟨#[117]⟩ else if t = 14 then ⟨#[115]⟩
  else if t = 15 then ⟨#[115, 112, 97, 110]⟩ else if t = 16 then ⟨#[98, 114]⟩ else ⟨#[]⟩
def attrM (a : ByteArray × ByteArray) : List UInt8 := 32 :: a.1.data.toList ++ [61, 34] ++ esc true a.2 ++ [34]
mutual
/-- a node's markup -/
def PN.outer : PN → List UInt8
  | .mk t a s ks => if t = 0 then esc false s else if clsT t = 0 then PN.outers ks
      else 60 :: (nameT t).data.toList ++ a.flatMap attrM ++ [62] ++ if clsT t = 5 then [] else PN.outers ks ++ ([60, 47] ++ (nameT t).data.toList ++ [62])
def PN.outers : List PN → List UInt8
  | [] => []
  | k :: r => PN.outer k ++ PN.outers r
end
def PN.inner (n : PN) : List UInt8 := if n.tag = 0 then [] else PN.outers n.kids
theorem PN.outer_eq (n : PN) : n.outer = if n.tag = 0 then esc false n.text else if clsT n.tag = 0 then PN.outers n.kids
      else 60 :: (nameT n.tag).data.toList ++ n.attrs.flatMap attrM ++ [62] ++ if clsT n.tag = 5 then [] else PN.outers n.kids ++ ([60, 47] ++ (nameT n.tag).data.toList ++ [62]) := by cases n; rfl
theorem PN.outers_append (l r : List PN) : PN.outers (l ++ r) = PN.outers l ++ PN.outers r := by
  induction l with
  | nil => rfl
  | cons x l ih => simp only [List.cons_append, PN.outers, ih, List.append_assoc]
def nameOk (s : ByteArray) : Bool :=
  decide (1 ≤ s.size ∧ s.size ≤ 16) && s.data.toList.head?.any (fun c => decide (97 ≤ c.toNat ∧ c.toNat ≤ 122)) && s.data.toList.all fun c => decide (97 ≤ c.toNat ∧ c.toNat ≤ 122 ∨ 48 ≤ c.toNat ∧ c.toNat ≤ 57 ∨ c.toNat = 45)
def mayR (r : Int) : Bool := decide (32 ≤ r ∧ r ≠ 127)
def valueOk (s : ByteArray) : Bool := decide (s.size ≤ 200) && decide (anewB s = s) && (runeList s s.size 0).all mayR
/-- where the first attribute of a name is -/
def attrAt (l : List (ByteArray × ByteArray)) (n : ByteArray) : Int := match l.findIdx? (fun a => decide (a.1 = n)) with | some i => i | none => -1
def attrsMay (l : List (ByteArray × ByteArray)) : Bool := l.zipIdx.all fun (a, i) => nameOk a.1 && valueOk a.2 && decide (attrAt l a.1 = i)
def blankB (c : UInt8) : Bool := decide (c = 9 ∨ c = 10 ∨ c = 12 ∨ c = 13 ∨ c = 32)
def textOk (box : Bool) (n : PN) : Bool := n.attrs.isEmpty && n.kids.isEmpty && decide (n.text.size ≠ 0) && decide (anewB n.text = n.text) && !(box && n.text.data.toList.all blankB)
mutual
/-- may a node be where it stands? (depth; in a box; a p or heading, an li around) -/
def PN.norm (d : Int) (box line li : Bool) : PN → Bool
  | .mk t a s ks => decide (d ≤ 40) && (if clsT t = 0 then false else if clsT t = 1 then textOk box (.mk t a s ks)
      else if clsT t = 5 then s.size == 0 && attrsMay a && ks.isEmpty
      else if clsT t = 4 then s.size == 0 && attrsMay a && PN.norms (d + 1) false line li false ks
      else !(line || t == 9 && li) && (s.size == 0 && attrsMay a && PN.norms (d + 1) (clsT t == 2) (clsT t == 3 && t != 9) (t == 9 || li && t != 7 && t != 8) false ks))
def PN.norms (d : Int) (box line li : Bool) (prev : Bool) : List PN → Bool
  | [] => true
  | k :: r => !(prev && k.tag == 0) && PN.norm d box line li k && PN.norms d box line li (k.tag == 0) r
end
theorem PN.norm_eq (d : Int) (box line li : Bool) (n : PN) : n.norm d box line li = (decide (d ≤ 40) && (if clsT n.tag = 0 then false else if clsT n.tag = 1 then textOk box n
      else if clsT n.tag = 5 then n.text.size == 0 && attrsMay n.attrs && n.kids.isEmpty
      else if clsT n.tag = 4 then n.text.size == 0 && attrsMay n.attrs && PN.norms (d + 1) false line li false n.kids
      else !(line || n.tag == 9 && li) && (n.text.size == 0 && attrsMay n.attrs && PN.norms (d + 1) (clsT n.tag == 2) (clsT n.tag == 3 && n.tag != 9) (n.tag == 9 || li && n.tag != 7 && n.tag != 8) false n.kids))) := by cases n; rfl
/-- a p or heading around, a box or an li not between: the innermost first, without the host -/
def lineIn : List Int → Bool
  | [] => false
  | t :: r => if 2 ≤ t ∧ t ≤ 5 then true else if clsT t = 2 ∨ t = 9 then false else lineIn r
def liIn : List Int → Bool
  | [] => false
  | t :: r => if t = 7 ∨ t = 8 then false else if t = 9 then true else liIn r
theorem lineIn_inline {t : Int} (h : clsT t = 4 ∨ clsT t = 5) (r : List Int) : lineIn (t :: r) = lineIn r ∧ liIn (t :: r) = liIn r := by
  have : 10 ≤ t := by
    unfold clsT at h
    repeat' split at h
    all_goals omega
  have h2 : clsT t ≠ 2 := by omega
  exact ⟨by rw [lineIn, if_neg (by omega), if_neg (by omega)], by rw [liIn, if_neg (by omega), if_neg (by omega)]⟩
theorem lineIn_big {t : Int} (h : clsT t = 2 ∨ clsT t = 3) (r : List Int) : lineIn (t :: r) = (clsT t == 3 && t != 9) ∧ liIn (t :: r) = (t == 9 || liIn r && t != 7 && t != 8) := by
  have ht : 1 ≤ t ∧ t ≤ 9 := by
    unfold clsT at h
    repeat' split at h
    all_goals omega
  obtain ⟨a, b⟩ := ht
  have hc : t = 1 ∨ t = 2 ∨ t = 3 ∨ t = 4 ∨ t = 5 ∨ t = 6 ∨ t = 7 ∨ t = 8 ∨ t = 9 := by omega
  rcases hc with rfl | rfl | rfl | rfl | rfl | rfl | rfl | rfl | rfl <;> simp [lineIn, liIn, clsT]
def PN.whole (n : PN) : Bool := decide (n.tag = 1) && n.attrs.isEmpty && n.text.size == 0 && PN.norms 1 true false false false n.kids && decide (n.size ≤ 2000) && decide (n.inner.length ≤ 8192)
end Go.Proofs.YtdafdoodegpdhaaDoor
