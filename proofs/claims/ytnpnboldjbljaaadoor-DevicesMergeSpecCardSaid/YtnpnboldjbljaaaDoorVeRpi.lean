/- Law 44's reference: put. -/
import Derived.Test.YtnpnboldjbljaaaDoorVeDap
namespace Frk
open Go Go.RowKit Go.Proofs
set_option maxRecDepth 100000

theorem put_yes {l : List Int} {n : Int} (h : n ∈ l) : putI l n = l := by
  unfold putI
  rw [if_pos (has_id.2 h)]
theorem put_no {l : List Int} {n : Int} {k : Nat} (hk : k = atK idI l n) (hr : RisK idI l) (h : ∀ x, l[k]? = some x → x ≠ n) : putI l n = l.take k ++ [n] ++ l.drop k := by
  unfold putI
  rw [if_neg]
  · unfold insK
    rw [show idI n = n from rfl, ← hk]
    simp
  · rw [hasK_at hr]
    rintro ⟨x, hx, e⟩
    rw [← hk] at hx
    exact h x hx e
theorem put_fin {l : List Int} {n : Int} {k len cap : Nat} {a : Option Addr} {V w W : World} {base : Nat} {v : Value} (h : OwnC intC 1 3 W base v (k + 1 + (len - k)) (l.take k ++ [n] ++ l.drop k)) (hp : putI l n = l.take k ++ [n] ++ l.drop k) (hkl : k ≤ len) (hd : IsIs V a len cap l) (hlt : len < 5000) (hbase : w.heap.size ≤ base) (hb : Below w.heap.size w W) {old : Nat → Prop} : RowPost intC 1 old (putI l n) w (.returned v) W := by
  rw [hp]
  have hl := hd.llen
  exact rowPost_of rowT_int h (by omega) (by simp [hl]; omega) (fun x hx => rfl) (by omega) hbase hb

set_option maxHeartbeats 4000000 in
theorem rputI_some (g off : Nat) (len cap : Nat) (l : List Int) (n : Int) (w : World) (hd : IsIs w (some ⟨g, off, none⟩) len cap l) (hr : RisK idI l) (hlen : len < 5000) :
    Calls Tryd.prog 54 #[.slice (some ⟨g, off, none⟩) len cap, .int .i64 n] w (RowPost intC 1 (OldOf (some ⟨g, off, none⟩) len) (putI l n) w) := by
  have HD := Seal.mk hd
  have HR := Seal.mk hr
  have hll := hd.llen
  have hlc := hd.lcap
  have hcm := hd.cmax
  have hat := atK_le (key := idI) l n
  rw [hll] at hat
  have HLT := Seal.mk hlen
  have HLL := Seal.mk hll
  have HAT : Seal (∀ x : Int, ∀ k : Nat, l[k]? = some x → k < atK idI l n → x < n) := ⟨fun x k hx hk => atK_low hk hx⟩
  have HAN : Seal (∀ x : Int, l[atK idI l n]? = some x → ¬ x < n) := ⟨fun x hx => atK_not hx⟩
  clear hd hll hr
  obtain ⟨at_, hat_⟩ : ∃ k, k = atK idI l n := ⟨_, rfl⟩
  have HATE := Seal.mk hat_
  rw [← hat_] at hat HAT HAN
  clear hat_
  go_enter Tryd.func54, Tryd.ntmps54
  go_wp2
  go_loopw [5] (fun i wr => ∃ k : Nat, k ≤ at_ ∧ i = .int .i64 k ∧ Seal (Below w.heap.size w wr)) (fun i _ => at_ - (intOf i).toNat)
  case atStart => exact ⟨0, by omega, rfl, ⟨Below.refl _ _⟩⟩
  case round =>
    obtain ⟨k, hk, rfl, hH⟩ := hrel
    have HDr := HD.out.below hH.out
    by_cases hlt : k < len
    · rcases HDr.at_ with h0 | ⟨g', off', eg, hr, hg⟩
      · omega
      · cases eg
        obtain ⟨x, hx⟩ : ∃ x, l[k]? = some x := ⟨_, List.getElem?_eq_getElem (by rw [HLL.out]; exact hlt)⟩
        have c2 : wr.cell? ⟨g, off + k, none⟩ = some (.int .i64 x) := by have := rangeC_row hr HDr.each hx 0 (.int .i64 x) rfl; simpa using this
        have q5 : (k : Int) < (len : Int) := by omega
        have q6 : (0 : Int) ≤ (k : Int) := by omega
        have HX := Seal.mk hx
        clear hr HDr hx
        by_cases hqo : x < n
        · have hkl : k < at_ := by
            rcases Nat.lt_or_ge k at_ with h1 | h1
            · exact h1
            · have e : k = at_ := by omega
              have := HAN.out x (by rw [← e]; exact HX.out)
              omega
          go_wp2
          go_roundw
          case rel => exact ⟨k + 1, by omega, by go_num, hH⟩
          case measure => simp [intOf]; omega
        · have hke : k = at_ := by
            rcases Nat.lt_or_ge k at_ with h1 | h1
            · have := HAT.out x k HX.out h1
              omega
            · omega
          have HKE : Seal (k = atK idI l n) := ⟨hke.trans HATE.out⟩
          clear HAT HAN HATE hke
          by_cases hxn : x = n
          · have b1 : (x == n) = true := by simp [hxn]
            have HPY : Seal (putI l n = l) := ⟨put_yes (by rw [← hxn]; exact List.mem_of_getElem? HX.out)⟩
            have HXN := Seal.mk hxn
            clear hxn
            go_wp2
            go_ret
            rw [HPY.out]
            exact ⟨_, _, _, rfl, ⟨HD.out.below hH.out, .inr ⟨g, off, rfl⟩, fun g' o' e h => .inl ⟨⟨o', e⟩, h⟩⟩, hH.out⟩
          · have b1 : (x == n) = false := by simp [hxn]
            have HPN : Seal (putI l n = l.take k ++ [n] ++ l.drop k) := ⟨put_no HKE.out HR.out (fun y hy => by rw [HX.out] at hy; cases hy; exact hxn)⟩
            have HXN := Seal.mk hxn
            clear hxn
            have HBV : Seal (Below w.heap.size w wr) := ⟨hH.out⟩
            have HDV : Seal (IsIs wr (some ⟨g, off, none⟩) len cap l) := ⟨HD.out.below hH.out⟩
            have s1 : (0 : Int) ≤ (k : Int) := by omega
            have s2 : (k : Int) ≤ (cap : Int) := by omega
            have s3 : (k : Int) ≤ (len : Int) := by omega
            obtain ⟨v1, W1, run1, o1, g1, bl1⟩ := put_head_c rowT_int wr g off len cap k l HDV.out (by omega) ((wr).alloc (.cells #[] 3)) (wr).heap.size 23 (own_empty_c rowT_int wr (wr).heap.size (Nat.le_refl _)) (below_alloc _ _)
            have z1 := bl1.size
            obtain ⟨v2, W2, run2, o2, bl2⟩ := put_one_c rowT_int k (l.take k) n rfl (by omega) (W1.alloc (.cells (intC n).toArray 3)) (wr).heap.size W1.heap.size v1 23 (World.ownsRow.alloc o1 _) (heap_alloc_new W1 _) (by rw [size_alloc] at z1 ⊢; omega)
            have R1 := Seal.mk run1
            have R2 := Seal.mk run2
            have BW : Seal (Below (wr).heap.size wr W2) := ⟨(((below_alloc _ _).trans bl1).alloc (by rw [size_alloc] at z1; omega) _).trans bl2⟩
            have O2 := Seal.mk o2
            clear run1 run2 o1 g1 bl1 z1 o2 bl2
            have hck' : (k : Int) < (cap : Int) := by omega
            obtain ⟨v3, W4, run3, o3, bl3⟩ := put_rest_c rowT_int wr g off len cap k (cap - k) l (l.take k ++ [n]) (k + 1) HDV.out (by omega) W2 v2 23 O2.out (by omega) BW.out ⟨g, off + k, none⟩ (fun h => by rw [Nat.mul_one])
            have R3 := Seal.mk run3
            clear run3
            go_wp2_with (first
              | (refine wpList_append_run1 rfl (.tmp 34) (.tmp 37) 23 23 23 rfl rfl _ (.slice (some ⟨g, off, none⟩) k cap) v1 rfl rfl R1.out ?_)
              | (refine wpList_append_run1 rfl (.tmp 38) (.tmp 40) 23 23 23 rfl rfl v1 (.slice (some ⟨W1.heap.size, 0, none⟩) 1 1) v2 rfl rfl R2.out ?_)
              | (refine wpList_append_run1 rfl (.tmp 42) (.tmp 45) 23 23 23 rfl rfl v2 (.slice (some ⟨g, off + k, none⟩) (len - k) (cap - k)) v3 rfl rfl R3.out ?_))
            go_ret
            exact put_fin o3 HPN.out (by omega) HD.out HLT.out HBV.out.size (HBV.out.trans ((BW.out.trans bl3).mono HBV.out.size))
    · have hke : k = at_ := by omega
      have HKE : Seal (k = atK idI l n) := ⟨hke.trans HATE.out⟩
      have HPN : Seal (putI l n = l.take k ++ [n] ++ l.drop k) := ⟨put_no HKE.out HR.out (fun y hy => by have := (List.getElem?_eq_some_iff.1 hy).1; have := HLL.out; omega)⟩
      clear HDr HAT HAN HATE hke
      have q5 : ¬ (k : Int) < (len : Int) := by omega
      have HBV : Seal (Below w.heap.size w wr) := ⟨hH.out⟩
      have HDV : Seal (IsIs wr (some ⟨g, off, none⟩) len cap l) := ⟨HD.out.below hH.out⟩
      have s1 : (0 : Int) ≤ (k : Int) := by omega
      have s2 : (k : Int) ≤ (cap : Int) := by omega
      have s3 : (k : Int) ≤ (len : Int) := by omega
      obtain ⟨v1, W1, run1, o1, g1, bl1⟩ := put_head_c rowT_int wr g off len cap k l HDV.out (by omega) ((wr).alloc (.cells #[] 3)) (wr).heap.size 23 (own_empty_c rowT_int wr (wr).heap.size (Nat.le_refl _)) (below_alloc _ _)
      have z1 := bl1.size
      obtain ⟨v2, W2, run2, o2, bl2⟩ := put_one_c rowT_int k (l.take k) n rfl (by omega) (W1.alloc (.cells (intC n).toArray 3)) (wr).heap.size W1.heap.size v1 23 (World.ownsRow.alloc o1 _) (heap_alloc_new W1 _) (by rw [size_alloc] at z1 ⊢; omega)
      have R1 := Seal.mk run1
      have R2 := Seal.mk run2
      have BW : Seal (Below (wr).heap.size wr W2) := ⟨(((below_alloc _ _).trans bl1).alloc (by rw [size_alloc] at z1; omega) _).trans bl2⟩
      have O2 := Seal.mk o2
      clear run1 run2 o1 g1 bl1 z1 o2 bl2
      have e0 : len - k = 0 := by omega
      by_cases hck : cap = k
      · obtain rfl : k = cap := hck.symm
        have hck' : ¬ (k : Int) < (k : Int) := by omega
        obtain ⟨v3, W4, run3, o3, bl3⟩ := put_rest_c rowT_int wr g off len k k 0 l (l.take k ++ [n]) (k + 1) HDV.out (by omega) W2 v2 23 O2.out (by omega) BW.out ⟨g, off, none⟩ (fun h => by omega)
        rw [e0] at run3
        have R3 := Seal.mk run3
        clear run3 e0
        go_wp2_with (first
          | (refine wpList_append_run1 rfl (.tmp 34) (.tmp 37) 23 23 23 rfl rfl _ (.slice (some ⟨g, off, none⟩) k k) v1 rfl rfl R1.out ?_)
          | (refine wpList_append_run1 rfl (.tmp 38) (.tmp 40) 23 23 23 rfl rfl v1 (.slice (some ⟨W1.heap.size, 0, none⟩) 1 1) v2 rfl rfl R2.out ?_)
          | (refine wpList_append_run1 rfl (.tmp 42) (.tmp 45) 23 23 23 rfl rfl v2 (.slice (some ⟨g, off, none⟩) 0 0) v3 rfl rfl R3.out ?_))
        go_ret
        exact put_fin o3 HPN.out (by omega) HD.out HLT.out HBV.out.size (HBV.out.trans ((BW.out.trans bl3).mono HBV.out.size))
      · have hck' : (k : Int) < (cap : Int) := by omega
        obtain ⟨v3, W4, run3, o3, bl3⟩ := put_rest_c rowT_int wr g off len cap k (cap - k) l (l.take k ++ [n]) (k + 1) HDV.out (by omega) W2 v2 23 O2.out (by omega) BW.out ⟨g, off + k, none⟩ (fun h => by rw [Nat.mul_one])
        have R3 := Seal.mk run3
        clear run3 e0
        go_wp2_with (first
          | (refine wpList_append_run1 rfl (.tmp 34) (.tmp 37) 23 23 23 rfl rfl _ (.slice (some ⟨g, off, none⟩) k cap) v1 rfl rfl R1.out ?_)
          | (refine wpList_append_run1 rfl (.tmp 38) (.tmp 40) 23 23 23 rfl rfl v1 (.slice (some ⟨W1.heap.size, 0, none⟩) 1 1) v2 rfl rfl R2.out ?_)
          | (refine wpList_append_run1 rfl (.tmp 42) (.tmp 45) 23 23 23 rfl rfl v2 (.slice (some ⟨g, off + k, none⟩) (len - k) (cap - k)) v3 rfl rfl R3.out ?_))
        go_ret
        exact put_fin o3 HPN.out (by omega) HD.out HLT.out HBV.out.size (HBV.out.trans ((BW.out.trans bl3).mono HBV.out.size))

set_option maxHeartbeats 4000000 in
theorem rputI_none (a : Option Addr) (n : Int) (w : World) :
    Calls Tryd.prog 54 #[.slice a 0 0, .int .i64 n] w (RowPost intC 1 (OldOf a 0) [n] w) := by
  go_enter Tryd.func54, Tryd.ntmps54
  go_wp2
  go_loopw [5] (fun i wr => ∃ k : Nat, k ≤ 0 ∧ i = .int .i64 k ∧ Seal (Below w.heap.size w wr)) (fun i _ => 0 - (intOf i).toNat)
  case atStart => exact ⟨0, by omega, rfl, ⟨Below.refl _ _⟩⟩
  case round =>
    obtain ⟨k, hk, rfl, hH⟩ := hrel
    obtain rfl : k = 0 := by omega
    obtain ⟨v1, W1, run1, o1, g1, bl1⟩ := put_head0_c rowT_int a wr.heap.size (wr.alloc (.cells #[] 3)) wr.heap.size 23 (own_empty_c rowT_int wr wr.heap.size (Nat.le_refl _)) (by rw [size_alloc]; omega)
    have z1 := bl1.size
    obtain ⟨v2, W2, run2, o2, bl2⟩ := put_one_c rowT_int 0 [] n rfl (by omega) (W1.alloc (.cells (intC n).toArray 3)) wr.heap.size W1.heap.size v1 23 (World.ownsRow.alloc o1 _) (heap_alloc_new W1 _) (by rw [size_alloc] at z1 ⊢; omega)
    have R1 := Seal.mk run1
    have R2 := Seal.mk run2
    have BW : Seal (Below wr.heap.size wr W2) := ⟨(((below_alloc _ _).trans bl1).alloc (by rw [size_alloc] at z1; omega) _).trans bl2⟩
    have O2 := Seal.mk o2
    clear run1 run2 o1 g1 bl1 z1 o2 bl2
    obtain ⟨v3, W4, run3, o3, bl3⟩ := put_rest0_c rowT_int a wr.heap.size W2 v2 1 [n] 23 O2.out (by decide) BW.out.size
    have R3 := Seal.mk run3
    clear run3
    go_wp2_with (first
      | (refine wpList_append_run1 rfl (.tmp 34) (.tmp 37) 23 23 23 rfl rfl _ (.slice a 0 0) v1 rfl rfl R1.out ?_)
      | (refine wpList_append_run1 rfl (.tmp 38) (.tmp 40) 23 23 23 rfl rfl v1 (.slice (some ⟨W1.heap.size, 0, none⟩) 1 1) v2 rfl rfl R2.out ?_)
      | (refine wpList_append_run1 rfl (.tmp 42) (.tmp 45) 23 23 23 rfl rfl v2 (.slice a 0 0) v3 rfl rfl R3.out ?_))
    go_ret
    exact rowPost_of rowT_int o3 (by decide) rfl (fun x hx => rfl) (by decide) hH.out.size (hH.out.trans ((BW.out.trans bl3).mono hH.out.size))

theorem rputI_any (a : Option Addr) (len cap : Nat) (l : List Int) (n : Int) (w : World) (hd : IsIs w a len cap l) (ha : PlainA a cap) (hr : RisK idI l) (hlen : len < 5000) :
    Calls Tryd.prog 54 #[.slice a len cap, .int .i64 n] w (RowPost intC 1 (OldOf a len) (putI l n) w) := by
  rcases ha with rfl | ⟨g, off, rfl⟩
  · obtain rfl : len = 0 := by have := hd.lcap; omega
    obtain rfl : l = [] := List.eq_nil_of_length_eq_zero hd.llen
    exact rputI_none a n w
  · exact rputI_some g off len cap l n w hd hr hlen
end Frk
