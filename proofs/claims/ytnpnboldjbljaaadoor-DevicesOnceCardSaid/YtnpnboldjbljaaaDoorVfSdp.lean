/- Law 44, plain: the examples. -/
import Derived.Test.YtnpnboldjbljaaaDoorVfDpo
import Derived.Test.YtnpnboldjbljaaaDoorVfDtk
namespace Frk
set_option maxRecDepth 100000

section
variable (A B : Bytes)
def dvA : Dv := ⟨[⟨3, A⟩], []⟩
def dvC : Dv := ⟨[⟨3, A⟩, ⟨5, B⟩], []⟩
def dvG : Dv := ⟨[⟨3, A⟩, ⟨5, B⟩], [5]⟩
theorem ex_chkA : chkD (dvA A) = 0 := rfl
theorem ex_chkG : chkD (dvG A B) = 0 := rfl
theorem ex_chkz : chkD Dv.z = 0 := rfl
theorem ex_chk3 : chkD ⟨[], [3]⟩ = 440 := rfl
theorem ex_p1 : postE Dv.z 3 = 0 := rfl
theorem ex_p1d (s : Int) : postD Dv.z s 3 = dvA (serB s 3) := by unfold postD; rw [if_pos ex_p1]; rfl
theorem ex_p1p (s : Int) : postP Dv.z s 3 = ⟨3, serB s 3⟩ := by unfold postP; rw [if_pos ex_p1]
theorem ex_p3 : postE (dvA A) 5 = 0 := rfl
theorem ex_p3d (s : Int) : postD (dvA A) s 5 = dvC A (serB s 5) := by unfold postD; rw [if_pos (ex_p3 A)]; rfl
theorem ex_p3p (s : Int) : postP (dvA A) s 5 = ⟨5, serB s 5⟩ := by unfold postP; rw [if_pos (ex_p3 A)]
theorem ex_p4 : postE (dvC A B) 5 = 181 := rfl
theorem ex_p4d (s : Int) : postD (dvC A B) s 5 = Dv.z := by unfold postD; rw [ex_p4]; rfl
theorem ex_p4p (s : Int) : postP (dvC A B) s 5 = zPo 0 := by unfold postP; rw [ex_p4]; rfl
theorem ex_p9 : postE Dv.z (-1) = 1 := rfl
theorem ex_p9d (s : Int) : postD Dv.z s (-1) = Dv.z := by unfold postD; rw [ex_p9]; rfl
theorem ex_p9p (s : Int) : postP Dv.z s (-1) = zPo 0 := by unfold postP; rw [ex_p9]; rfl
theorem ex_g5 : gotE (dvC A B) 5 = 0 := rfl
theorem ex_g5d : gotD (dvC A B) 5 = dvG A B := by unfold gotD; rw [if_pos (ex_g5 A B)]; rfl
theorem ex_g0 : gotE Dv.z 0 = 1 := rfl
theorem ex_g0d : gotD Dv.z 0 = Dv.z := by unfold gotD; rw [ex_g0]; rfl
theorem ex_o : owedL (dvG A B) = [3] := rfl
theorem ex_oz : owedL Dv.z = [] := rfl
theorem ex_t1 : takeF [] A = ([A], true) := rfl
theorem ex_t2 : takeF [A] A = ([A], false) := by
  unfold takeF
  rw [if_pos (by simp [usedB]), if_pos (by simp [hasB])]
theorem ex_agr : AgrK Po.o (dvG A B).P (dvA A).P := by
  intro x hx y hy e
  simp only [dvG, dvA, List.mem_cons, List.not_mem_nil, or_false] at hx hy
  subst hy
  rcases hx with rfl | rfl
  · rfl
  · have e : (5 : Int) = 3 := e; omega
theorem ex_mP : mrgK Po.o (dvG A B).P (dvA A).P = (dvG A B).P := by simp [dvG, dvA, mrgK]
theorem ex_mG : mrgK idI (dvG A B).G (dvA A).G = (dvG A B).G := by simp [dvG, dvA, mrgK]
theorem ex_m : mergeE (dvG A B) (dvA A) = 0 := mergeE_zero.2 ⟨ex_chkG A B, ex_chkA A, ex_agr A B, by rw [ex_mP]; show 2 ≤ 4096; decide⟩
theorem ex_md : mergeD (dvG A B) (dvA A) = dvG A B := by unfold mergeD mrgD; rw [if_pos (ex_m A B), ex_mP, ex_mG]
end
end Frk
