/- onetime's Check. -/
import Derived.Test.YtcioeedlfbioaaaGreatDoorOtg
import Derived.Test.YtcioeedlfbioaaaGreatDoorEqd
import Derived.Test.YtcioeedlfbioaaaGreatDoorDbs
import Derived.BigQuiet
import Derived.Test.YtcioeedlfbioaaaGreatDoorRow
import Derived.Test.YtcioeedlfbioaaaGreatDoorDin
import Derived.Deep.Cut
namespace Frk
open Go Go.RowKit Go.Proofs
set_option maxRecDepth 100000

/-- a return's cells -/
def retC (L K P Q : Int) (T : Bytes) : List Value := [.int .i64 L, .int .i64 K, .int .i64 P, .int .i64 Q] ++ T.map B
theorem retC_len {L K P Q : Int} {T : Bytes} (h : T.length = 32) : (retC L K P Q T).length = 36 := by simp [retC, h]
theorem retC_one (L K P Q : Int) (T : Bytes) : ∀ u ∈ retC L K P Q T, u.oneCell' = true := by
  intro u hu
  unfold retC at hu
  rcases List.mem_append.1 hu with h | h
  · simp only [List.mem_cons, List.not_mem_nil, or_false] at h
    rcases h with rfl | rfl | rfl | rfl <;> rfl
  · obtain ⟨b, _, rfl⟩ := List.mem_map.1 h
    rfl
theorem retC_head (L K P Q : Int) (T : Bytes) : RetHead (retC L K P Q T) L K P Q := ⟨rfl, rfl, rfl, rfl⟩
def zb32 : Bytes := [0, 0, 0, 0, 0, 0, 0, 0, 0, 0, 0, 0, 0, 0, 0, 0, 0, 0, 0, 0, 0, 0, 0, 0, 0, 0, 0, 0, 0, 0, 0, 0]
/-- what Make returns: the four numbers, the tag, the error -/
def makeF (L K al r : Int) : Int × Int × Int × Int × Bytes × Int :=
  if L < 0 ∨ 64 ≤ L then (0, 0, 0, 0, zb32, 160) else if vd K = true then (if 1 ≤ al ∧ al ≤ 1073741789 then
    (L, K, ((mp (1 : Int).toNat (pw 4 r) : Nat) : Int), ((mp (elB al).toNat (pw K.toNat r) : Nat) : Int), rtag L K ((mp (1 : Int).toNat (pw 4 r) : Nat) : Int) ((mp (elB al).toNat (pw K.toNat r) : Nat) : Int), 0)
    else (0, 0, 0, 0, zb32, 160)) else (0, 0, 0, 0, zb32, 90)

theorem retC_zero : (List.toArray (.int .i64 0 :: .int .i64 0 :: .int .i64 0 :: .int .i64 0 :: .int .u8 0 :: .int .u8 0 :: .int .u8 0 :: .int .u8 0 :: .int .u8 0 :: .int .u8 0 :: .int .u8 0 :: .int .u8 0 :: .int .u8 0 :: .int .u8 0 :: .int .u8 0 :: .int .u8 0 :: .int .u8 0 :: .int .u8 0 :: .int .u8 0 :: .int .u8 0 :: .int .u8 0 :: .int .u8 0 :: .int .u8 0 :: .int .u8 0 :: .int .u8 0 :: .int .u8 0 :: .int .u8 0 :: .int .u8 0 :: .int .u8 0 :: .int .u8 0 :: .int .u8 0 :: .int .u8 0 :: .int .u8 0 :: .int .u8 0 :: .int .u8 0 :: .int .u8 0 :: []) : Array Value) = (retC 0 0 0 0 zb32).toArray := by kernel_rfl
theorem one_ret : ((List.toArray (.int .i64 0 :: .int .i64 0 :: .int .i64 0 :: .int .i64 0 :: .int .u8 0 :: .int .u8 0 :: .int .u8 0 :: .int .u8 0 :: .int .u8 0 :: .int .u8 0 :: .int .u8 0 :: .int .u8 0 :: .int .u8 0 :: .int .u8 0 :: .int .u8 0 :: .int .u8 0 :: .int .u8 0 :: .int .u8 0 :: .int .u8 0 :: .int .u8 0 :: .int .u8 0 :: .int .u8 0 :: .int .u8 0 :: .int .u8 0 :: .int .u8 0 :: .int .u8 0 :: .int .u8 0 :: .int .u8 0 :: .int .u8 0 :: .int .u8 0 :: .int .u8 0 :: .int .u8 0 :: .int .u8 0 :: .int .u8 0 :: .int .u8 0 :: .int .u8 0 :: []) : Array Value)).all (·.oneCell') = true := by rw [retC_zero]; exact all_oneCell_toArray (retC_one _ _ _ _ _)
theorem elB_vd {n : Int} (h1 : 1 ≤ n) (h2 : n ≤ 1073741789) : vd (elB n) = true := by
  unfold elB
  cases hv : vd n with
  | true => rw [if_pos rfl]; exact hv
  | false =>
    rw [if_neg (by decide)]
    obtain ⟨m, rfl⟩ : ∃ m : Nat, n = m := ⟨n.toNat, by omega⟩
    have hm : 0 < m ∧ m < P := ⟨by omega, by show m < 2147483579; omega⟩
    have hnv : ¬ Vd m := fun h => by rw [(vd_iff m).2 h] at hv; cases hv
    have := (vd_iff (P - m)).2 ((vd_opp hm.1 hm.2).2 hnv)
    rw [show ((P - m : Nat) : Int) = 2147483579 - (m : Int) from by have := hm.2; unfold P at *; omega] at this
    exact this

theorem lay_retC {L K p q : Int} {S T : Bytes} (hS : S.length = 32) (hT : T.length = 32) : lay (retC L K p q S) 4 (T.map B) = retC L K p q T := by
  unfold lay retC
  rw [List.take_left' (by rfl), List.drop_of_length_le (by simp [hS, hT]), List.append_nil]

theorem zb32_len : zb32.length = 32 := rfl

/-- is a return address right? -/
def chkB (L K P Q : Int) (T : Bytes) : Bool := decide (0 ≤ L) && decide (L < 64) && vd K && vd P && vd Q && (T == rtag L K P Q)
def I64 (n : Int) : Prop := -9223372036854775808 ≤ n ∧ n ≤ 9223372036854775807

/-- what Spend returns: the list, the error -/
def spendF (c : Bool) (l : List Bytes) (d : Bytes) (bad : Int) : List Bytes × Int :=
  if c = true then (if usedB l = true then (if hasB l d = true then ([], 161) else if 4096 ≤ l.length then ([], 2) else (putB l d, 0)) else ([], bad)) else ([], bad)

/-- a list of digests and an error, returned -/
def DigPost (l : List Bytes) (x : Int) (w : World) (e : Ending) (w' : World) : Prop :=
  ∃ a len cap, e = .returned (.tuple #[.slice a len cap, .int .i64 x]) ∧ Seal (IsD w' a len cap l) ∧ Below w.heap.size w w'

theorem isD_nil (w : World) : IsD w none 0 0 [] := ⟨rfl, Nat.le_refl _, by decide, by decide, by simp, .inl rfl⟩

theorem isD_own {w : World} {base n g c : Nat} {l : List Bytes} (h : OwnD w base (.slice (some ⟨g, 0, none⟩) n c) n l) (hl : l.length = n) (he : ∀ d ∈ l, d.length = 32) (hn : n ≤ 1099511627776) : IsD w (some ⟨g, 0, none⟩) n c l := by
  rcases h.2 with ⟨e, _⟩ | ⟨g', cap, cur, hv, hb, hg, hnc, hcm, hcs, htk⟩
  · cases e
  · cases hv
    unfold maxLen at hcm
    refine ⟨hl, hnc, hn, by omega, he, .inr ⟨_, 0, rfl, ?_, (Array.getElem?_eq_some_iff.1 hg).1⟩⟩
    have := rangeAt_take (rangeAt_row (cs := cur.toList) (by simpa using hg)) (n * 32)
    rw [htk] at this
    exact this

theorem digPost_nil {x : Int} {w w' : World} (hb : Below w.heap.size w w') : DigPost [] x w (.returned (.tuple #[.slice none 0 0, .int .i64 x])) w' :=
  ⟨none, 0, 0, rfl, ⟨isD_nil _⟩, hb⟩

theorem below_drewn (w : World) : Below w.heap.size w w.drew := ⟨rfl, rfl, rfl, Nat.le_refl _, fun _ _ => rfl⟩

/-- what stands behind the insertion -/
theorem spend_end {base n : Nat} {l : List Bytes} {T : Bytes} {w w' : World} {g c : Nat} (h : OwnD w' base (.slice (some ⟨g, 0, none⟩) (n + 1) c) (n + 1) (l.take (atB l T) ++ T :: l.drop (atB l T))) (hl : l.length = n) (he : ∀ d ∈ l, d.length = 32) (h32 : T.length = 32) (hn : n < 4096) (hb : Below w.heap.size w w') :
    DigPost (putB l T) 0 w (.returned (.tuple #[.slice (some ⟨g, 0, none⟩) (n + 1) c, .int .i64 0])) w' :=
  ⟨_, _, _, rfl, ⟨isD_own h (by rw [← hl]; exact putB_length l T) (ins_len l _ T he h32) (by omega)⟩, hb⟩

end Frk
