/- slices.Sort at texts, by the kit's shelf: a slice that the caller hands over to be written; no condition. -/
import Derived.Test.YtiejaibmcmicoaaGreatDoorAmL
import Derived.Test.YtiejaibmcmicoaaGreatDoorAmH
import Derived.Shelf.Sort.Plain
import Derived.KernelRfl
namespace Go.Proofs
open Go.Shelf Go.RowKit
def Tryz.laysSort_ren : Go.Shelf.Ren := ⟨fun | 190 => 52 | 125 => 68 | 258 => 92 | 128 => 111 | 129 => 112 | 302 => 123 | 303 => 124 | 304 => 125 | 305 => 126 | 306 => 127 | 307 => 128 | 308 => 129 | 309 => 130 | 310 => 131 | 333 => 154 | 329 => 141 | 330 => 142 | 334 => 155 | 335 => 156 | 336 => 69 | 344 => 178 | n => n, fun | 31 => 34 | 9 => 9 | 3 => 3 | 46 => 99 | 0 => 0 | 51 => 131 | 53 => 133 | 4 => 4 | 183 => 124 | 182 => 123 | 131 => 128 | 5 => 5 | 218 => 152 | 222 => 156 | 228 => 185 | 229 => 186 | n => n, fun | n => n⟩
theorem Tryz.laysSort : Go.Proofs.Lays.n190 Tryz.prog Tryz.laysSort_ren where
  mixed := by kernel_rfl
  f125 := Tryz.func68.trans (congrArg some (by kernel_rfl))
  f128 := Tryz.func111.trans (congrArg some (by kernel_rfl))
  f129 := Tryz.func112.trans (congrArg some (by kernel_rfl))
  f190 := Tryz.func52.trans (congrArg some (by kernel_rfl))
  f258 := Tryz.func92.trans (congrArg some (by kernel_rfl))
  f302 := Tryz.func123.trans (congrArg some (by kernel_rfl))
  f303 := Tryz.func124.trans (congrArg some (by kernel_rfl))
  f304 := Tryz.func125.trans (congrArg some (by kernel_rfl))
  f305 := Tryz.func126.trans (congrArg some (by kernel_rfl))
  f306 := Tryz.func127.trans (congrArg some (by kernel_rfl))
  f307 := Tryz.func128.trans (congrArg some (by kernel_rfl))
  f308 := Tryz.func129.trans (congrArg some (by kernel_rfl))
  f309 := Tryz.func130.trans (congrArg some (by kernel_rfl))
  f310 := Tryz.func131.trans (congrArg some (by kernel_rfl))
  f329 := Tryz.func141.trans (congrArg some (by kernel_rfl))
  f330 := Tryz.func142.trans (congrArg some (by kernel_rfl))
  f333 := Tryz.func154.trans (congrArg some (by kernel_rfl))
  f334 := Tryz.func155.trans (congrArg some (by kernel_rfl))
  f335 := Tryz.func156.trans (congrArg some (by kernel_rfl))
  f336 := Tryz.func69.trans (congrArg some (by kernel_rfl))
  f344 := Tryz.func178.trans (congrArg some (by kernel_rfl))
  t0 := Tryz.underlying0
  a0 := Tryz.isAgg0
  z0 := Tryz.sizeOf0
  v0 := Tryz.zeroValue0
  t3 := Tryz.underlying3
  a3 := Tryz.isAgg3
  z3 := Tryz.sizeOf3
  v3 := Tryz.zeroValue3
  t4 := Tryz.underlying4
  a4 := Tryz.isAgg4
  z4 := Tryz.sizeOf4
  v4 := Tryz.zeroValue4
  t5 := Tryz.underlying5
  a5 := Tryz.isAgg5
  z5 := Tryz.sizeOf5
  v5 := Tryz.zeroValue5
  t9 := Tryz.underlying9
  a9 := Tryz.isAgg9
  z9 := Tryz.sizeOf9
  v9 := Tryz.zeroValue9
  t31 := Tryz.underlying34
  a31 := Tryz.isAgg34
  z31 := Tryz.sizeOf34
  v31 := Tryz.zeroValue34
  t46 := Tryz.underlying99
  a46 := Tryz.isAgg99
  z46 := Tryz.sizeOf99
  v46 := Tryz.zeroValue99
  t51 := Tryz.underlying131
  a51 := Tryz.isAgg131
  z51 := Tryz.sizeOf131
  v51 := Tryz.zeroValue131
  t53 := Tryz.underlying133
  a53 := Tryz.isAgg133
  z53 := Tryz.sizeOf133
  v53 := Tryz.zeroValue133
  t131 := Tryz.underlying128
  a131 := Tryz.isAgg128
  z131 := Tryz.sizeOf128
  v131 := Tryz.zeroValue128
  t182 := Tryz.underlying123
  a182 := Tryz.isAgg123
  z182 := Tryz.sizeOf123
  v182 := Tryz.zeroValue123
  t183 := Tryz.underlying124
  a183 := Tryz.isAgg124
  z183 := Tryz.sizeOf124
  v183 := Tryz.zeroValue124
  t218 := Tryz.underlying152
  a218 := Tryz.isAgg152
  z218 := Tryz.sizeOf152
  v218 := Tryz.zeroValue152
  t222 := Tryz.underlying156
  a222 := Tryz.isAgg156
  z222 := Tryz.sizeOf156
  v222 := Tryz.zeroValue156
  t228 := Tryz.underlying185
  a228 := Tryz.isAgg185
  z228 := Tryz.sizeOf185
  v228 := Tryz.zeroValue185
  t229 := Tryz.underlying186
  a229 := Tryz.isAgg186
  z229 := Tryz.sizeOf186
  v229 := Tryz.zeroValue186
end Go.Proofs
namespace Go.Proofs.YtiejaibmcmicoaaGreatDoor.Am
open Go Go.RowKit
/-- Texts in the order of their bytes. -/
def bytesL (xs : List ByteArray) : List (List UInt8) := xs.map (·.data.toList)
def sortM (xs : List ByteArray) : List ByteArray := ((bytesL xs).mergeSort fun x y => decide (x ≤ y)).map bs
theorem sortM_len (xs : List ByteArray) : (sortM xs).length = xs.length := by simp [sortM, bytesL]
theorem strCell {M : Nat → Prop} {φ : Nat → Option Loc} {w : World} {xs : List ByteArray} {us : List Value} {Fs : List (List Nat)} (h1 : us.length = (rows Ty.str.oc xs).length) (h2 : Fs.length = (rows Ty.str.oc xs).length)
    (h : ∀ (j : Nat) (x : AV) (u : Value) (F : List Nat), (rows Ty.str.oc xs)[j]? = some x → us[j]? = some u → Fs[j]? = some F → V φ M w x u F) : us = xs.map .string ∧ Fs.flatten = [] := by
  have hl : (rows Ty.str.oc xs).length = xs.length := rowsS_len xs
  have hc : ∀ (j : Nat) (x : ByteArray), xs[j]? = some x → (rows Ty.str.oc xs)[j]? = some (AV.sc (.string x)) := by
    clear h h1 h2 hl
    induction xs with
    | nil => intro j x hj; simp at hj
    | cons y xs ih =>
      intro j x hj
      cases j with
      | zero => simp at hj; subst hj; rfl
      | succ j => exact ih j x (by simpa using hj)
  have key : ∀ (j : Nat) (x : ByteArray) (u : Value) (F : List Nat), xs[j]? = some x → us[j]? = some u → Fs[j]? = some F → u = .string x ∧ F = [] := fun j x u F a b c => by
    have := h j _ u F (hc j x a) b c
    cases this with
    | imm _ _ h => cases h; exact ⟨rfl, rfl⟩
  constructor
  · apply List.ext_getElem?
    intro j
    rw [List.getElem?_map]
    by_cases hj : j < xs.length
    · have a := List.getElem?_eq_getElem hj
      have b := List.getElem?_eq_getElem (show j < us.length by omega)
      have c := List.getElem?_eq_getElem (show j < Fs.length by omega)
      rw [a, b, (key j _ _ _ a b c).1]
      rfl
    · rw [List.getElem?_eq_none (by omega), List.getElem?_eq_none (by omega)]; rfl
  · refine List.flatten_eq_nil_iff.2 fun F hF => ?_
    obtain ⟨j, hj⟩ := List.getElem?_of_mem hF
    have hjl : j < xs.length := by have := (List.getElem?_eq_some_iff.1 hj).1; omega
    exact (key j _ _ _ (List.getElem?_eq_getElem hjl) (List.getElem?_eq_getElem (show j < us.length by omega)) hj).2
theorem heap_put {enc : List UInt8 → Value} {w : World} {n g o : Nat} {d : Array (List UInt8)} {os : Array Obj} {k : Nat} (hk : k < w.heap.size) : (Go.Sort.grow (Go.Sort.putRow enc (Go.Sort.ahead w n) g o d) os).heap[k]? = if k = g then (w.heap[k]?).map (Go.Sort.onCells (Go.Sort.putCells enc o d)) else w.heap[k]? := by
  show ((Go.Sort.putRow enc (Go.Sort.ahead w n) g o d).heap ++ os)[k]? = _
  have hs : (Go.Sort.putRow enc (Go.Sort.ahead w n) g o d).heap.size = w.heap.size := Go.Sort.size_putRow ..
  rw [Array.getElem?_append_left (by omega)]
  show (w.heap.modify g _)[k]? = _
  rw [Array.getElem?_modify]
  by_cases h : g = k
  · subst h; simp
  · rw [if_neg h, if_neg (fun e => h e.symm)]
theorem Ret.sortOf {P : Program} {ρ : Go.Shelf.Ren} {f : FuncId} (L : Lays.n190 P ρ) (hf : ρ.f 190 = f) (xs : List ByteArray) (hp : xs ≠ []) (hN : xs.length ≤ 140737488355328) :
    Ret P f [.io (rows Ty.str.oc xs) xs.length 1] (.tup []) [.io (rows Ty.str.oc (sortM xs)) (sortM xs).length 1] := by
  intro M w vs Fs hV hnd hF hM hT
  obtain ⟨v1, v2, v3⟩ := hV
  match vs, Fs, v1, v2, v3 with
  | [x], [F], _, _, v3 =>
    have hx := v3 0 _ x F rfl rfl rfl
    generalize hio : AV.io (rows Ty.str.oc xs) xs.length 1 = a at hx
    cases hx with
    | io cs len sz g o c C us Fs h1 h2 hb hl hs hr hc ho h =>
      cases hio
      obtain ⟨e1, e2⟩ := strCell h1 h2 h
      rw [e2] at hnd hF ⊢
      have hg := hF g (by simp)
      have hbl : (bytesL xs).length = xs.length := by simp [bytesL]
      have hcell : ∀ j, j < xs.length → C[o + j]? = (xs[j]?).map .string := fun j hj => by
        have : us[j]? = (xs[j]?).map .string := by rw [e1, List.getElem?_map]
        rw [List.getElem?_eq_getElem hj] at this ⊢
        exact hc j _ this
      have hH : Go.Sort.Holds Go.Proofs.encStr w g o (bytesL xs).toArray := fun j hj => by
        have hj : j < xs.length := by simpa [bytesL] using hj
        refine ⟨?_, hb.frozen _ (by omega)⟩
        rw [hb.cell, hcell j hj, List.getElem?_eq_getElem hj]
        simp [bytesL, hj]
      have hcall := Any.slices_Sort_string L g o c (bytesL xs) w hH hg.2 (by rw [hbl]; omega)
      rw [hbl, hf] at hcall
      refine hcall.mono ?_
      rintro e w' ⟨rfl, n, os, rfl⟩
      obtain ⟨ty, fr, hb1, hb2⟩ := hb
      obtain ⟨d, hd⟩ : ∃ d, d = ((bytesL xs).mergeSort fun x y => decide (x ≤ y)).toArray := ⟨_, rfl⟩
      have hds : d.size = xs.length := by rw [hd]; simp [bytesL]
      rw [← hd]
      have hsz : (Go.Sort.putCells Go.Proofs.encStr o d C).size = C.size := by simp [Go.Sort.putCells]
      have hheap : (Go.Sort.grow (Go.Sort.putRow Go.Proofs.encStr (Go.Sort.ahead w n) g o d) os).heap[g]? = some (.cells (Go.Sort.putCells Go.Proofs.encStr o d C) ty fr) := by
        rw [heap_put hg.2, if_pos rfl, hb1]; rfl
      have hsize : w.heap.size ≤ (Go.Sort.grow (Go.Sort.putRow Go.Proofs.encStr (Go.Sort.ahead w n) g o d) os).heap.size := by
        show _ ≤ (_ ++ os).size
        rw [Array.size_append, Go.Sort.size_putRow]
        exact Nat.le_add_right _ _
      have hsl : (sortM xs).length = xs.length := sortM_len xs
      refine ⟨_, M, [], [[g]], rfl, .imm _ _ (.tup [] [] rfl (by simp)), ⟨rfl, rfl, fun j x u G a b c' => ?_⟩, (by intro y hy; simp at hy; subst hy; simp [ioPos, ioPos1, hsl]; exact List.length_pos_iff.2 hp), ?_⟩
      · match j with
        | 0 =>
          simp at a b c'
          subst a; subst b; subst c'
          rw [hsl]
          have := V.io (φ := nof) (M := M) (w := Go.Sort.grow (Go.Sort.putRow Go.Proofs.encStr (Go.Sort.ahead w n) g o d) os) (rows Ty.str.oc (sortM xs)) xs.length 1 g o c (Go.Sort.putCells Go.Proofs.encStr o d C) ((sortM xs).map .string) ((sortM xs).map fun _ => []) (by rw [List.length_map, rowsS_len]) (by rw [List.length_map, rowsS_len])
            ⟨ty, fr, hheap, by rw [hsz]; exact hb2⟩ hl (by rw [rowsS_len, hsl, Nat.mul_one]) (by rw [hsz]; exact hr) (fun j u hj => ?_) (fun u hu => by obtain ⟨z, _, rfl⟩ := List.mem_map.1 hu; rfl) (fun j y u F hy hu hF => ?_)
          · rwa [show ((sortM xs).map fun _ => ([] : List Nat)).flatten = [] from List.flatten_eq_nil_iff.2 fun F hF => by obtain ⟨_, _, rfl⟩ := List.mem_map.1 hF; rfl] at this
          · rw [List.getElem?_map] at hj
            obtain ⟨z, hz, rfl⟩ := Option.map_eq_some_iff.1 hj
            have hjl : j < xs.length := by have := (List.getElem?_eq_some_iff.1 hz).1; omega
            have hcj : o + j < C.size := by omega
            have hdj : z = bs d[j]! := by
              have : (sortM xs)[j]? = some (bs d[j]!) := by
                rw [sortM, List.getElem?_map, hd]
                have hj2 : j < ((bytesL xs).mergeSort fun x y => decide (x ≤ y)).length := by simpa [bytesL] using hjl
                rw [List.getElem?_eq_getElem hj2]
                simp only [Option.map_some, List.getElem!_toArray]
                rw [List.getElem!_eq_getElem?_getD, List.getElem?_eq_getElem hj2]
                rfl
              exact Option.some.inj (hz.symm.trans this)
            rw [Go.Sort.putCells, Array.getElem?_mapIdx, Array.getElem?_eq_getElem hcj]
            simp only [Option.map_some]
            rw [if_pos ⟨by omega, by omega⟩, hdj, show o + j - o = j by omega]
            rfl
          · obtain ⟨z, hz, rfl⟩ : ∃ z : ByteArray, y = .sc (.string z) ∧ u = .string z := by
              rw [List.getElem?_map] at hu
              obtain ⟨z, hz, rfl⟩ := Option.map_eq_some_iff.1 hu
              refine ⟨z, ?_, rfl⟩
              have hr : ∀ (l : List ByteArray) (j : Nat) (x : ByteArray), l[j]? = some x → (rows Ty.str.oc l)[j]? = some (AV.sc (.string x)) := by
                intro l
                induction l with
                | nil => intro j x hj; simp at hj
                | cons y l ih =>
                  intro j x hj
                  cases j with
                  | zero => simp at hj; subst hj; rfl
                  | succ j => exact ih j x (by simpa using hj)
              exact Option.some.inj (hy.symm.trans (hr _ _ _ hz))
            obtain rfl : F = [] := by
              rw [List.getElem?_map] at hF
              obtain ⟨_, _, rfl⟩ := Option.map_eq_some_iff.1 hF
              rfl
            subst hz
            exact V.sc _ rfl
        | j + 1 => simp at a
      · refine ⟨by simp, fun k hk => ?_, fun g h => h, fun g h => .inl h, fun g h => Nat.lt_of_lt_of_le (hM g h) hsize, rfl, rfl, rfl, hsize, fun k hk hn => ?_, fun k m hk => ?_⟩
        · simp at hk
          subst hk
          exact ⟨hg.1, Nat.lt_of_lt_of_le hg.2 hsize, .inl (by simp)⟩
        · rw [heap_put hk, if_neg (fun e => hn (by simp [e]))]
        · obtain ⟨D, e, q, a, b⟩ := hk
          have hkl := (Array.getElem?_eq_some_iff.1 a).1
          by_cases e2 : k = g
          · subst e2
            rw [hb1] at a
            cases a
            exact ⟨_, _, _, hheap, by rw [hsz]; exact b⟩
          · exact ⟨D, e, q, by rw [heap_put hkl, if_neg e2]; exact a, b⟩
    | ionil sz A => 
      exfalso
      simp at hio
      exact hp hio.2.1
    | imm _ _ h => subst hio; cases h
    | _ => cases hio
end Go.Proofs.YtiejaibmcmicoaaGreatDoor.Am
