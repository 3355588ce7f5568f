/- Joint keys, plain: the product of keys; the secrets of a joint key, taken off one after the other, leave what was sealed. Slices of integers. -/
import Derived.Test.YtgdhjapnploaoaaDoorRcz
import Derived.Test.YtgdhjapnploaoaaDoorRop
import Derived.Test.YtgdhjapnploaoaaDoorHol
import Derived.Deep.Cut
namespace Frk
open Go Go.RowKit Go.Proofs Go.ChangeShapes Go.WideShapes Go.ChangeAt
set_option maxRecDepth 100000

/-- the product of the keys of secrets -/
def jnF (c : Nat) : List Int → Nat
  | [] => c
  | s :: ss => jnF (mp c (pw 4 s)) ss
theorem jnF_mp (c : Nat) : ∀ (ss : List Int) (d : Nat), jnF (mp c d) ss = mp c (jnF d ss)
  | [], _ => rfl
  | s :: ss, d => by
    show jnF (mp (mp c d) (pw 4 s)) ss = mp c (jnF (mp d (pw 4 s)) ss)
    rw [mp_assoc, jnF_mp c ss]
theorem jnF_vd : ∀ (ss : List Int) {c : Nat}, Vd c → Vd (jnF c ss)
  | [], _, h => h
  | s :: ss, _, h => jnF_vd ss (h.mp (Vd.pw vd4 s))
theorem jnF_snoc (c : Nat) (s : Int) : ∀ (ss : List Int) (d : Nat), jnF d (ss ++ [s]) = mp (jnF d ss) (pw 4 s)
  | [], _ => rfl
  | x :: ss, d => jnF_snoc c s ss (mp d (pw 4 x))
theorem jnF_cons (s : Int) (ss : List Int) : jnF 1 (s :: ss) = mp (pw 4 s) (jnF 1 ss) := by
  show jnF (mp 1 (pw 4 s)) ss = _
  rw [mp_comm, jnF_mp]

/-- secrets taken off a cipher -/
def offs (ss : List Int) (p : Int × Int) : Int × Int := ss.foldl (fun p s => offP s p) p
theorem offs_nil (p : Int × Int) : offs [] p = p := rfl
theorem offs_cons (s : Int) (ss : List Int) (p : Int × Int) : offs (s :: ss) p = offs ss (offP s p) := rfl
theorem offs_snoc (s : Int) (ss : List Int) (p : Int × Int) : offs (ss ++ [s]) p = offP s (offs ss p) := by
  unfold offs; rw [List.foldl_append]; rfl
theorem offs_ok : ∀ (ss : List Int) {p : Int × Int}, vd p.1 = true ∧ vd p.2 = true → vd (offs ss p).1 = true ∧ vd (offs ss p).2 = true
  | [], _, h => h
  | _ :: ss, _, h => offs_ok ss (offP_ok h)

theorem pw_of_one (t : Int) : pw 1 t = 1 := by
  unfold pw; rw [Nat.one_pow]; decide

theorem offs_seal (t : Int) : ∀ (ss : List Int) (e : Nat), e < P → offs ss (((pw 4 t : Nat) : Int), ((mp e (pw (jnF 1 ss) t) : Nat) : Int)) = (((pw 4 t : Nat) : Int), (e : Int))
  | [], e, he => by
    show (((pw 4 t : Nat) : Int), ((mp e (pw 1 t) : Nat) : Int)) = _
    rw [pw_of_one, mp_one he]
  | s :: ss, e, he => by
    rw [offs_cons]
    have h : offP s (((pw 4 t : Nat) : Int), ((mp e (pw (jnF 1 (s :: ss)) t) : Nat) : Int)) = (((pw 4 t : Nat) : Int), ((mp e (pw (jnF 1 ss) t) : Nat) : Int)) := by
      unfold offP
      show (_, ((mp (mp e (pw (jnF 1 (s :: ss)) t)) (pw (pw 4 t) (-s)) : Nat) : Int)) = _
      rw [off_seal (n := s) (r := t) rfl (mp_lt e (pw (jnF 1 ss) t))]
      rw [jnF_cons]
      show mp e (pw (pw 4 s * jnF 1 ss % P) t) = _
      rw [mul_pw]
      show mp e (mp (pw (pw 4 s) t) (pw (jnF 1 ss) t)) = _
      rw [mp_comm (pw (pw 4 s) t), mp_assoc]
    rw [h]
    exact offs_seal t ss e he

/-- a slice of integers -/
structure IsN (w : World) (a : Option Addr) (len cap : Nat) (l : List Int) : Prop where
  llen : l.length = len
  lcap : len ≤ cap
  lmax : len ≤ 1099511627776
  cmax : cap ≤ 9223372036854775807
  each : ∀ x ∈ l, I64 x
  at_ : len = 0 ∨ ∃ g off, a = some ⟨g, off, none⟩ ∧ w.rangeAt g off (l.map (Value.int .i64)) ∧ g < w.heap.size

theorem IsN.of_heap {w w' : World} {a : Option Addr} {len cap : Nat} {l : List Int} (h : IsN w a len cap l) (hb : Below w.heap.size w w') : IsN w' a len cap l :=
  ⟨h.llen, h.lcap, h.lmax, h.cmax, h.each, by
    rcases h.at_ with h0 | ⟨g, off, e, hr, hg⟩
    · exact .inl h0
    · exact .inr ⟨g, off, e, rangeAt_below' hr hb, Nat.lt_of_lt_of_le hg hb.size⟩⟩

theorem range_i64 {zs : List Int} (h : ∀ n ∈ zs, (Lit.int .i64 n).wf = true) (x : Int) (hx : x ∈ zs) : I64 x := by
  have := h _ hx
  simp [Lit.wf] at this
  have h1 : IntKind.i64.min = -9223372036854775808 := by decide
  have h2 : IntKind.i64.max = 9223372036854775807 := by decide
  exact ⟨by omega, by omega⟩

theorem ints_open {H : Type} {enc : TypeId × Value → H} {W : World} {base : Nat} {v : Value} {d : DataW H} {p : List MemPlace} (hval : Value.okWide Tryd.prog W .any base 54 v) (h1 : DataW.Trod enc Tryd.prog W 0 (fun _ => true) true 54 v d p) :
    ∃ a len cap l, v = .slice a len cap ∧ (len : Int) ≤ 9223372036854775807 ∧ (len ≤ 1099511627776 → IsN W a len cap l) := by
  obtain ⟨a1, len, cap, rfl⟩ := okWide_slice Tryd.underlying54 hval
  obtain ⟨fuel, hf⟩ := h1
  have c1 : Tryd.prog.cellsOf 3 = 1 := by kernel_rfl
  rcases open_ints Tryd.underlying54 Tryd.underlying3 c1 hf with ⟨hcs, hx⟩ | ⟨a, len', cap', zs, hcs, _, hl, hm, hz, hx, hcell, hwz⟩
  · simp [Value.cells] at hcs
    obtain ⟨rfl, rfl, rfl⟩ := hcs
    exact ⟨none, 0, 0, [], rfl, by decide, fun _ => ⟨rfl, Nat.le_refl _, by decide, by decide, by simp, .inl rfl⟩⟩
  · simp [Value.cells] at hcs
    obtain ⟨rfl, rfl, rfl⟩ := hcs
    simp only [if_true] at hz
    unfold maxLen at hm
    have hlen : (zs.take len).length = len := by simp; omega
    refine ⟨some a, len, cap, zs.take len, rfl, by omega, fun h40 => ⟨hlen, hl, h40, by omega, fun x hx => range_i64 hwz x (List.mem_of_mem_take hx), ?_⟩⟩
    rcases Nat.eq_zero_or_pos len with h0 | h0
    · exact .inl h0
    · right
      obtain ⟨ab, ao, spot⟩ := a
      have hspot : spot = none := by simpa [Addr.add] using World.cell?_spot (hcell 0 (by omega))
      subst hspot
      refine ⟨ab, ao, rfl, fun j u hu => ?_, ?_⟩
      · have hj : j < len := by have := (List.getElem?_eq_some_iff.1 hu).1; rw [List.length_map, hlen] at this; exact this
        have hcj := hcell j (by omega)
        rw [Addr.add_lit] at hcj
        rw [hcj, ← hu, List.getElem?_map, List.getElem?_take, if_pos hj, List.getElem?_eq_getElem (show j < zs.length by omega)]
        have e : zs.getD j 0 = zs[j]'(by omega) := by simp [List.getD_eq_getElem?_getD, List.getElem?_eq_getElem (show j < zs.length by omega)]
        rw [e]
        rfl
      · have hc0 := hcell 0 (by omega)
        rw [Addr.add_lit] at hc0
        exact block_lt_of_cell hc0

def keysOf (ss : List Int) : List Int := ss.map fun s => ((pw 4 s : Nat) : Int)

theorem keysOf_i64 (ss : List Int) : ∀ x ∈ keysOf ss, I64 x := by
  intro x hx
  unfold keysOf at hx
  obtain ⟨s, _, rfl⟩ := List.mem_map.1 hx
  have h := pw_lt 4 s
  have hP : P = 2147483579 := rfl
  exact ⟨by omega, by omega⟩

theorem cell_n {w : World} {g off : Nat} {l : List Int} (h : w.rangeAt g off (l.map (Value.int .i64))) {k : Nat} (hk : k < l.length) : w.cell? ⟨g, off + k, none⟩ = some (.int .i64 (l.getD k 0)) := by
  refine h k _ ?_
  rw [List.getElem?_map, List.getElem?_eq_getElem hk]
  simp [List.getD_eq_getElem?_getD, List.getElem?_eq_getElem hk]

theorem jnF_take (ss : List Int) (k : Nat) (hk : k < ss.length) : jnF 1 (ss.take (k + 1)) = mp (jnF 1 (ss.take k)) (pw 4 (ss.getD k 0)) := by
  rw [List.take_add_one, List.getElem?_eq_getElem hk]
  simp only [Option.toList_some]
  rw [jnF_snoc 1]
  simp [List.getD_eq_getElem?_getD, List.getElem?_eq_getElem hk]

theorem keysOf_getD (ss : List Int) (k : Nat) (hk : k < ss.length) : (keysOf ss).getD k 0 = ((pw 4 (ss.getD k 0) : Nat) : Int) := by
  unfold keysOf
  simp [List.getD_eq_getElem?_getD, List.getElem?_eq_getElem hk]

set_option maxHeartbeats 2000000 in
theorem efold_any (a : Option Addr) (n cap : Nat) (ss : List Int) (w : World) (h : IsN w a n cap (keysOf ss)) :
    Calls Tryd.prog 51 #[.slice a n cap, .int .i64 1, .func (.func 38) #[] #[]] w fun e w' => e = .returned (.tuple #[.int .i64 (jnF 1 ss : Nat), .int .i64 0]) ∧ w = w' := by
  have hl : ss.length = n := by have := h.llen; unfold keysOf at this; simpa using this
  have hm := h.lmax
  have HK := Seal.mk h
  have HL := Seal.mk hl
  clear h
  go_enter Tryd.func51, Tryd.ntmps51
  go_wp2
  go_loopw [6, 13] (fun x i wr => ∃ k : Nat, k ≤ n ∧ x = .int .i64 (jnF 1 (ss.take k) : Nat) ∧ i = .int .i64 k ∧ wr = w) (fun _ i _ => n - (intOf i).toNat)
  case atStart => exact ⟨0, by omega, by simp [jnF], rfl, rfl⟩
  case round =>
    obtain ⟨k, hk, rfl, rfl, rfl⟩ := hrel
    by_cases hlt : k < n
    · rcases HK.out.at_ with h0 | ⟨g, off, rfl, hr, hg⟩
      · omega
      · have q5 : (k : Int) < (n : Int) := by omega
        have q6 : (0 : Int) ≤ (k : Int) := by omega
        have c1 := cell_n hr (k := k) (by rw [HK.out.llen]; exact hlt)
        rw [keysOf_getD ss k (by omega)] at c1
        have HM := Seal.mk (mul_yes (jnF 1 (ss.take k) : Nat) (pw 4 (ss.getD k 0) : Nat) wr ((vd_iff _).2 (jnF_vd _ ((vd_iff _).1 (by decide +kernel)))) ((vd_iff _).2 (Vd.pw vd4 _)))
        have HJ : Seal (mp (jnF 1 (ss.take k)) (pw 4 (ss.getD k 0)) = jnF 1 (ss.take (k + 1))) := ⟨(jnF_take ss k (by omega)).symm⟩
        obtain ⟨u, hu⟩ : ∃ u : Nat, u = jnF 1 (ss.take k) := ⟨_, rfl⟩
        obtain ⟨v, hv⟩ : ∃ v : Nat, v = pw 4 (ss.getD k 0) := ⟨_, rfl⟩
        rw [← hu, ← hv] at HM HJ
        rw [← hv] at c1
        rw [← hu]
        clear hu hv hr hl
        go_wp2_with fail
        refine HM.out.mono ?_
        rintro e w1 ⟨rfl, rfl⟩
        rw [Int.toNat_natCast, Int.toNat_natCast, HJ.out]
        go_wp2_with fail
        go_roundw
        case rel => exact ⟨k + 1, by omega, rfl, by go_num, by first | rfl | trivial⟩
        case measure => simp [intOf]; omega
    · obtain rfl : k = n := by omega
      have q5 : ¬ (k : Int) < (k : Int) := by omega
      have e : ss.take k = ss := List.take_of_length_le (by omega)
      rw [e]
      go_wp2_with fail
      go_ret2
      exact ⟨rfl, rfl⟩

theorem ejoin_any (a : Option Addr) (n cap : Nat) (ss : List Int) (w : World) (h : IsN w a n cap (keysOf ss)) :
    Calls Tryd.prog 20 #[.slice a n cap] w fun e w' => e = .returned (.tuple #[.int .i64 (jnF 1 ss : Nat), .int .i64 0]) ∧ w = w' := by
  have HF := Seal.mk (efold_any a n cap ss w h)
  clear h
  go_enter Tryd.func20, Tryd.ntmps20
  go_wp2_with fail
  refine HF.out.mono ?_
  rintro e w1 ⟨rfl, rfl⟩
  go_wp2_with fail
  go_ret2
  exact ⟨rfl, rfl⟩

def secB (n : Int) : Bool := decide (0 < n) && decide (n < 1073741789)

theorem esecret_any (n : Int) (t : Bool) (w : World) (ht : secB n = t) : Calls Tryd.prog 49 #[.int .i64 n] w fun e w' => e = .returned (.bool t) ∧ w = w' := by
  unfold secB at ht
  have HT := Seal.mk ht
  clear ht
  by_cases h0 : 1 ≤ n
  · by_cases h1 : n < 1073741789
    · have HF : Seal (t = true) := ⟨by rw [← HT.out, decide_eq_true (show 0 < n by omega), decide_eq_true h1]; rfl⟩
      go_enter Tryd.func49, Tryd.ntmps49
      go_wp2
      go_ret
      exact ⟨ret_bool HF.out.symm, rfl⟩
    · have HF : Seal (t = false) := ⟨by rw [← HT.out, decide_eq_false h1]; simp⟩
      go_enter Tryd.func49, Tryd.ntmps49
      go_wp2
      go_ret
      exact ⟨ret_bool HF.out.symm, rfl⟩
  · have HF : Seal (t = false) := ⟨by rw [← HT.out, decide_eq_false (show ¬ 0 < n by omega)]; simp⟩
    go_enter Tryd.func49, Tryd.ntmps49
    go_wp2
    go_ret
    exact ⟨ret_bool HF.out.symm, rfl⟩

/-- what Public returns (and blind's Begin) -/
def pubF (n : Int) : Int × Int := if secB n = true then (((pw 4 n : Nat) : Int), 0) else (0, 110)

theorem public_at (n d e0 : Int) (w : World) (h : Seal (pubF n = (d, e0))) (h1 : -9223372036854775808 ≤ n) (h2 : n ≤ 9223372036854775807) : Calls Tryd.prog 19 #[.int .i64 n] w fun e w' => e = .returned (.tuple #[.int .i64 d, .int .i64 e0]) ∧ Below w.heap.size w w' := by
  have h' := h.out
  unfold pubF at h'
  cases hs : secB n with
  | false =>
    rw [hs, if_neg (by decide)] at h'
    obtain ⟨rfl, rfl⟩ := Prod.mk.inj h'
    have HS := Seal.mk hs
    clear h h' hs h1 h2
    go_enter Tryd.func19, Tryd.ntmps19
    go_wp2_with (go_at_call 49; refine (esecret_any _ _ _ HS.out).mono ?_; rintro e w' ⟨rfl, rfl⟩)
    go_ret2
    exact ⟨rfl, Below.refl _ _⟩
  | true =>
    rw [hs, if_pos rfl] at h'
    obtain ⟨rfl, rfl⟩ := Prod.mk.inj h'
    have HS := Seal.mk hs
    have HP : Seal _ := ⟨pow_yes 4 n w (by decide +kernel) h1 h2⟩
    clear h h' hs h1 h2
    go_enter Tryd.func19, Tryd.ntmps19
    go_wp2_with (first | (go_at_call 49; refine (esecret_any _ _ _ HS.out).mono ?_; rintro e w' ⟨rfl, rfl⟩) | (go_at_call 50; refine HP.out.mono ?_; rintro e w' ⟨rfl, hb⟩))
    go_ret2
    exact ⟨rfl, hb⟩

/-- a stretch of a walk, ended by what its slots and its world are -/
def CutQ (F : Nat → Act) (R : Nat → World → Prop) : Exit → Act → World → Prop
  | .normal, a, W => ∃ g, a = F g ∧ R g W
  | _, _, _ => False

theorem wp_cut {P : Program} {c : Code} {Q : Exit → Act → World → Prop} {a : Act} {w : World} (F : Nat → Act) (R : Nat → World → Prop)
    (h : c.wp P (CutQ F R) a w) (hQ : ∀ g W, R g W → Q .normal (F g) W) : c.wp P Q a w :=
  Code.wp_mono (fun e a W hq => by
    cases e with
    | normal => obtain ⟨g, ha, hR⟩ := hq; subst ha; exact hQ g W hR
    | _ => exact hq.elim) h

theorem xst_row {P : Program} {o : Oper} {a : Act} {w : World} (ty : TypeId) (x y : Operand) (ho : o.op = .store ty x y)
    (g : Nat) (cells : Array Value) (hx : a.eval x = .pointer (some ⟨g, 0, none⟩)) (hy : a.eval y = .agg cells)
    (t : TypeId) (old : Array Value) (hg : w.heap[g]? = some (.cells old t (0, 0))) (hi : (P.info? ty).map (·.size) = some cells.size)
    (hold : old.size = cells.size) (h1 : cells.all (·.oneCell') = true) : (execOp a.eval o).run P w = .ok .skip (w.setRow g cells) := by
  unfold execOp
  simp only [ho, hx, hy, Instr.storeAt, Instr.sureAddr, Sem.run_bind, Sem.run_pure, Result.andThen_ok, run_storeVar_row w g t ty old cells hg hi hold h1]

end Frk
