/- strings.Join by the kit's shelf: what a list of texts holds, joined; no condition. -/
import Derived.Test.YtiejaibmcmicoaaGreatDoorAmL
import Derived.Test.YtiejaibmcmicoaaGreatDoorAmZ
import Derived.Shelf.Strings.OnBuilder
import Derived.KernelRfl
namespace Go.Proofs
open Go.Shelf Go.RowKit
def Tryz.laysJoin_ren : Go.Shelf.Ren := ⟨fun | 156 => 188 | 165 => 204 | 166 => 205 | 169 => 206 | 240 => 218 | 241 => 219 | 276 => 221 | 277 => 222 | n => n, fun | 31 => 34 | 9 => 9 | 3 => 3 | 4 => 4 | 0 => 0 | 20 => 20 | 72 => 207 | 76 => 211 | 70 => 205 | 37 => 22 | 75 => 210 | 127 => 223 | 164 => 225 | 5 => 5 | 80 => 213 | n => n, fun | n => n⟩
theorem Tryz.laysJoin : Go.Proofs.Lays.n156 Tryz.prog Tryz.laysJoin_ren where
  mixed := by kernel_rfl
  f156 := Tryz.func188.trans (congrArg some (by kernel_rfl))
  f165 := Tryz.func204.trans (congrArg some (by kernel_rfl))
  f166 := Tryz.func205.trans (congrArg some (by kernel_rfl))
  f169 := Tryz.func206.trans (congrArg some (by kernel_rfl))
  f240 := Tryz.func218.trans (congrArg some (by kernel_rfl))
  f241 := Tryz.func219.trans (congrArg some (by kernel_rfl))
  f276 := Tryz.func221.trans (congrArg some (by kernel_rfl))
  f277 := Tryz.func222.trans (congrArg some (by kernel_rfl))
  t0 := Tryz.underlying0
  a0 := Tryz.isAgg0
  z0 := Tryz.sizeOf0
  v0 := Tryz.zeroValue0
  t3 := Tryz.underlying3
  a3 := Tryz.isAgg3
  z3 := Tryz.sizeOf3
  v3 := Tryz.zeroValue3
  t4 := Tryz.underlying4
  a4 := Tryz.isAgg4
  z4 := Tryz.sizeOf4
  v4 := Tryz.zeroValue4
  t9 := Tryz.underlying9
  a9 := Tryz.isAgg9
  z9 := Tryz.sizeOf9
  v9 := Tryz.zeroValue9
  t20 := Tryz.underlying20
  a20 := Tryz.isAgg20
  z20 := Tryz.sizeOf20
  v20 := Tryz.zeroValue20
  t31 := Tryz.underlying34
  a31 := Tryz.isAgg34
  z31 := Tryz.sizeOf34
  v31 := Tryz.zeroValue34
  t37 := Tryz.underlying22
  a37 := Tryz.isAgg22
  z37 := Tryz.sizeOf22
  v37 := Tryz.zeroValue22
  t70 := Tryz.underlying205
  a70 := Tryz.isAgg205
  z70 := Tryz.sizeOf205
  v70 := Tryz.zeroValue205
  t72 := Tryz.underlying207
  a72 := Tryz.isAgg207
  z72 := Tryz.sizeOf207
  v72 := Tryz.zeroValue207
  t75 := Tryz.underlying210
  a75 := Tryz.isAgg210
  z75 := Tryz.sizeOf210
  v75 := Tryz.zeroValue210
  t76 := Tryz.underlying211
  a76 := Tryz.isAgg211
  z76 := Tryz.sizeOf211
  v76 := Tryz.zeroValue211
  t127 := Tryz.underlying223
  a127 := Tryz.isAgg223
  z127 := Tryz.sizeOf223
  v127 := Tryz.zeroValue223
  t164 := Tryz.underlying225
  a164 := Tryz.isAgg225
  z164 := Tryz.sizeOf225
  v164 := Tryz.zeroValue225
theorem Tryz.extraJoin : Builder.Extra Tryz.prog Tryz.laysJoin_ren where
  sizeBuilder := by kernel_rfl
  liesBuilder := by kernel_rfl
  t5 := Tryz.underlying5
  a5 := Tryz.isAgg5
  z5 := Tryz.sizeOf5
  v5 := Tryz.zeroValue5
  infoByte := by kernel_rfl
  cellsByte := by kernel_rfl
  sizeByte := by kernel_rfl
  neB5 := by decide
end Go.Proofs
namespace Go.Proofs.YtiejaibmcmicoaaGreatDoor.Am
open Go Go.RowKit
def joinB (xs : List ByteArray) (sep : ByteArray) : ByteArray := ⟨(Lib.join (xs.map (·.data.toList)) sep.data.toList).toArray⟩
theorem strRow : ∀ {xs : List ByteArray} {j : Nat} {x : ByteArray}, xs[j]? = some x → (rows Ty.str.cs xs)[j]? = some (.sc (.string x))
  | [], j, x, h => by simp at h
  | y :: xs, 0, x, h => by
    have h : y = x := by simpa using h
    subst h
    rfl
  | y :: xs, j + 1, x, h => strRow (xs := xs) (j := j) (x := x) (by simpa using h)
theorem Ret.joinOf {P : Program} {ρ : Go.Shelf.Ren} {f : FuncId} (L : Lays.n156 P ρ) (X : Builder.Extra P ρ) (hf : ρ.f 156 = f) (xs : List ByteArray) (sep : ByteArray) (hN : xs.length ≤ 140737488355328) (hlen : (joinB xs sep).size ≤ 140737488355328) :
    Ret P f [.ro (rows Ty.str.cs xs) xs.length, .sc (.string sep)] (.sc (.string (joinB xs sep))) [.un, .un] := by
  intro M w vs Fs hV hnd hF hM hT
  obtain ⟨v1, v2, v3⟩ := hV
  match vs, Fs, v1, v2, v3 with
  | [x, y], [F, G], _, _, v3 =>
    obtain ⟨rfl, _⟩ := vsc (v3 1 _ y G rfl rfl rfl)
    obtain ⟨A, c, us, rfl, hlc, hA, hW, hcell⟩ := vro (v3 0 _ x F rfl rfl rfl)
    have hcalls : Calls P f #[.slice A xs.length c, .string sep] w fun e w' => e = .returned (.string (joinB xs sep)) ∧ Below w.heap.size w w' := by
      cases xs with
      | nil =>
        rw [← hf]
        refine (Any.strings_Join_none L X A c sep w).mono fun e w' ⟨he, hw⟩ => ⟨?_, hw ▸ Below.refl _ _⟩
        rw [he]; rfl
      | cons a l =>
        obtain ⟨g, o, rfl⟩ := hA (by simp)
        have hu : ∀ (j : Nat) (z : ByteArray), (a :: l)[j]? = some z → M g ∧ w.cell? ⟨g, o + j, none⟩ = some (.string z) := fun j z hj => by
          have hr := strRow hj
          have hl : j < us.length := by rw [hW.1]; exact (List.getElem?_eq_some_iff.1 hr).1
          have hu : us[j]? = some us[j] := List.getElem?_eq_getElem hl
          have hw := hW.2.2 j _ _ hr hu
          obtain ⟨g', o', e, hm, hc⟩ := hcell j _ hu
          cases e
          generalize us[j] = u at hw hc
          cases hw with
          | sc _ _ => exact ⟨hm, hc⟩
        have hg : g < w.heap.size := hM g (hu 0 a rfl).1
        have hlen' : (Lib.join ((a :: l).map (·.data.toList)) sep.data.toList).length ≤ 140737488355328 := by
          have e : (joinB (a :: l) sep).size = (Lib.join ((a :: l).map (·.data.toList)) sep.data.toList).length := by
            show (Array.size _) = _
            rw [List.size_toArray]
          rw [← e]; exact hlen
        rw [← hf]
        exact Any.strings_Join L X g o c (a :: l) sep w (fun j z hj => (hu j z hj).2) hg hN hlc hlen'
    refine hcalls.mono ?_
    rintro e w' ⟨rfl, hb⟩
    have hfr : ∀ g, g < w.heap.size → w'.heap[g]? = w.heap[g]? := hb.block
    refine ⟨_, M, [], [[], []], rfl, V.sc _ rfl, ⟨rfl, rfl, fun j x v G a b c => ?_⟩, (by intro y hy; simp at hy; rcases hy with rfl | rfl <;> rfl), ?_⟩
    · match j with
      | 0 => simp at a b c; subst a; subst b; subst c; exact V.un _
      | 1 => simp at a b c; subst a; subst b; subst c; exact V.un _
      | j + 2 => simp at a
    · exact ⟨by simp, by simp, fun g h => h, fun g h => .inl h, fun g h => Nat.lt_of_lt_of_le (hM g h) hb.size, hb.os, hb.tape, hb.output, hb.size, fun g hg _ => hfr g hg, Keeps.of hfr⟩
end Go.Proofs.YtiejaibmcmicoaaGreatDoor.Am
