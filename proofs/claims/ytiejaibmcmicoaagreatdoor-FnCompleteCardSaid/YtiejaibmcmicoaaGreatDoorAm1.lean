/- The operations of the small machine that write nothing, and that the model's operations do just that; no condition. -/
import Derived.Test.YtiejaibmcmicoaaGreatDoorAm0
import Derived.Laws.BytesArg
import Derived.Laws.StructEq
namespace Go.Proofs.YtiejaibmcmicoaaGreatDoor.Am
open Go
def cv1 : Value → AV
  | .slice none 0 0 => .em
  | .slice .. | .agg _ | .tuple _ => .un
  | v => .sc v
def cv : Value → AV
  | .slice none 0 0 => .em
  | .slice .. | .tuple _ => .un
  | .agg cs => if cs.toList.all (·.oneCell') then .agg (cs.toList.map cv1) else .un
  | v => .sc v
theorem V.cv1 (φ : Nat → Option Loc) (M : Nat → Prop) (w : World) (v : Value) : V φ M w (cv1 v) v [] := by
  cases v <;> try exact V.sc _ rfl
  case slice a n c =>
    unfold Am.cv1
    split
    · rename_i h; cases h; exact V.em _
    · exact V.un _
    · exact V.un _
    · exact V.un _
    · rename_i h1 h2 _ _ ; exact absurd rfl (h2 _ _ _)
  case agg => exact V.un _
  case tuple => exact V.un _
theorem V.aggOf {φ : Nat → Option Loc} {M : Nat → Prop} {w : World} {cs : List AV} {us : List Value} (h : Cs φ M w cs us []) : V φ M w (.agg cs) (.agg us.toArray) [] := by
  obtain ⟨Fs, h1, h2, h3, h4, h⟩ := h
  rw [h4]
  exact .agg cs us Fs h1 h2 h3 h
theorem V.cv (φ : Nat → Option Loc) (M : Nat → Prop) (w : World) (v : Value) : V φ M w (cv v) v [] := by
  cases v <;> try exact V.sc _ rfl
  case slice a n c =>
    unfold Am.cv
    split
    · rename_i h; cases h; exact V.em _
    · exact V.un _
    · exact V.un _
    · rename_i h; cases h
    · rename_i h1 h2 _ _ ; exact absurd rfl (h2 _ _ _)
  case agg cs =>
    unfold Am.cv
    simp only
    split
    · rename_i h
      have : V φ M w (.agg (cs.toList.map Am.cv1)) (.agg cs.toList.toArray) [] := by
        refine V.aggOf (Cs.of_all (by simp) (fun u hu => List.all_eq_true.1 h u hu) ?_)
        intro j x u a b
        simp only [List.getElem?_map, b, Option.map_some, Option.some.injEq] at a
        exact a ▸ V.cv1 φ M w u
      simpa using this
    · exact V.un _
  case tuple => exact V.un _
inductive AX where
  | t (n : Nat)
  | c (x : AV)
  deriving Inhabited
def AX.ev (ρ : Nat → AV) : AX → AV
  | .t n => ρ n
  | .c x => x
def cx : Operand → Option AX
  | .tmp t => some (.t t)
  | .const v => some (.c (cv v))
  | .func f => some (.c (.clo f []))
  | .global _ => none
theorem Inv.ev {E : Ent} {φ : Nat → Option Loc} {M : Nat → Prop} {L : Nat → List Nat} {st : St} {a : Act} {w : World} (h : Inv E φ M L st a.tmps w) {o : Operand} {x : AX} (hx : cx o = some x) :
    V φ M w (x.ev st.ρ) (a.eval o) [] := by
  cases o <;> simp only [cx, Option.some.injEq, reduceCtorEq] at hx <;> subst hx
  · exact h.env _
  · exact V.cv _ _ _ _
  · exact .clo _ [] [] [] rfl rfl (by simp)
def plain : AV → Bool
  | .own .. | .io .. | .bx .. => false
  | .agg cs => plainL cs
  | .tup cs => plainL cs
  | .clo _ cs => plainL cs
  | _ => true
where plainL : List AV → Bool
  | [] => true
  | x :: l => plain x && plainL l
theorem plainL_mem {l : List AV} (h : plain.plainL l = true) : ∀ x ∈ l, plain x = true := by
  induction l with
  | nil => simp
  | cons y l ih =>
    simp only [plain.plainL, Bool.and_eq_true] at h
    intro x hx
    rcases List.mem_cons.1 hx with rfl | hx
    · exact h.1
    · exact ih h.2 x hx
theorem flatten_nil_of {cs : List AV} {Fs : List (List Nat)} (h2 : Fs.length = cs.length) (h : ∀ (j : Nat) (x : AV) (F : List Nat), cs[j]? = some x → Fs[j]? = some F → F = []) : Fs.flatten = [] := by
  rw [List.flatten_eq_nil_iff]
  intro F hF
  obtain ⟨j, hj, rfl⟩ := List.mem_iff_getElem.1 hF
  exact h j _ _ (List.getElem?_eq_getElem (by omega)) (List.getElem?_eq_getElem hj)
theorem V.nofoot {φ : Nat → Option Loc} {M : Nat → Prop} {w : World} {x : AV} {v : Value} {F : List Nat} (h : V φ M w x v F) (hp : plain x = true) : F = [] := by
  induction h with
  | agg cs us Fs h1 h2 ho h ih =>
    refine flatten_nil_of h2 fun j x F a c => ?_
    have hj : j < us.length := by rw [h1]; exact (List.getElem?_eq_some_iff.1 a).1
    exact ih j x _ F a (List.getElem?_eq_getElem hj) c (plainL_mem hp x (List.mem_of_getElem? a))
  | tup cs us Fs h1 h2 h ih =>
    refine flatten_nil_of h2 fun j x F a c => ?_
    have hj : j < us.length := by rw [h1]; exact (List.getElem?_eq_some_iff.1 a).1
    exact ih j x _ F a (List.getElem?_eq_getElem hj) c (plainL_mem hp x (List.mem_of_getElem? a))
  | clo f cs us Fs h1 h2 h ih =>
    refine flatten_nil_of h2 fun j x F a c => ?_
    have hj : j < us.length := by rw [h1]; exact (List.getElem?_eq_some_iff.1 a).1
    exact ih j x _ F a (List.getElem?_eq_getElem hj) c (plainL_mem hp x (List.mem_of_getElem? a))
  | own => cases hp
  | ownnil => rfl
  | io => cases hp
  | ionil => rfl
  | bx => cases hp
  | _ => rfl
def deref (h : Nat → Option (Option (List AV))) : AV → Option (List AV)
  | .ref b off => match h b with | some (some cs) => some (cs.drop off) | _ => none
  | .rp cs off => some (cs.drop off)
  | _ => none
def cellsOf : AV → Option (List AV)
  | .agg cs => some cs
  | .tup _ | .un => none
  | x => some [x]
def sbin (op : BinOp) (x y : Value) : Option Value :=
  match op, x, y with
  | .shl, .int k a, .int _ b => if b < 0 then none else some (.int k (k.wrap (a * 2 ^ min b.toNat k.bits)))
  | .shr, .int k a, .int _ b => if b < 0 then none else some (.int k (a.fdiv (2 ^ min b.toNat k.bits)))
  | .add, .int k a, .int k' b => if k = k' then some (.int k (k.wrap (a + b))) else none
  | .sub, .int k a, .int k' b => if k = k' then some (.int k (k.wrap (a - b))) else none
  | .mul, .int k a, .int k' b => if k = k' then some (.int k (k.wrap (a * b))) else none
  | .quo, .int k a, .int k' b => if k = k' then if b = 0 then none else some (.int k (k.wrap (a.tdiv b))) else none
  | .rem, .int k a, .int k' b => if k = k' then if b = 0 then none else some (.int k (a.tmod b)) else none
  | .and, .int k a, .int k' b => if k = k' then some (.int k (k.wrap (BitVec.ofInt k.bits a &&& BitVec.ofInt k.bits b).toNat)) else none
  | .or, .int k a, .int k' b => if k = k' then some (.int k (k.wrap (BitVec.ofInt k.bits a ||| BitVec.ofInt k.bits b).toNat)) else none
  | .xor, .int k a, .int k' b => if k = k' then some (.int k (k.wrap (BitVec.ofInt k.bits a ^^^ BitVec.ofInt k.bits b).toNat)) else none
  | .eql, .int k a, .int k' b => if k = k' then some (.bool (a == b)) else none
  | .neq, .int k a, .int k' b => if k = k' then some (.bool (a != b)) else none
  | .lss, .int k a, .int k' b => if k = k' then some (.bool (a < b)) else none
  | .leq, .int k a, .int k' b => if k = k' then some (.bool (a ≤ b)) else none
  | .gtr, .int k a, .int k' b => if k = k' then some (.bool (a > b)) else none
  | .geq, .int k a, .int k' b => if k = k' then some (.bool (a ≥ b)) else none
  | .add, .string a, .string b => if a.size + b.size ≤ 9223372036854775807 then some (.string (a ++ b)) else none
  | .eql, .string a, .string b => some (.bool (a.toList == b.toList))
  | .neq, .string a, .string b => some (.bool !(a.toList == b.toList))
  | .lss, .string a, .string b => some (.bool (Op.bytesLess a.toList b.toList))
  | .leq, .string a, .string b => some (.bool (Op.bytesLess a.toList b.toList || a.toList == b.toList))
  | .gtr, .string a, .string b => some (.bool !(Op.bytesLess a.toList b.toList || a.toList == b.toList))
  | .geq, .string a, .string b => some (.bool !(Op.bytesLess a.toList b.toList))
  | _, _, _ => none
theorem sbin_run {op : BinOp} {x y r : Value} (h : sbin op x y = some r) (P : Program) (t : TypeId) (ox oy : Operand) (w : World) :
    ((do eqGuard op t ox oy x y; binOp op t x y) : Sem Value).run P w = .ok r w ∧ r.oneCell' = true := by
  unfold sbin at h
  split at h <;> (try (split at h)) <;> (try (split at h)) <;> simp only [Option.some.injEq, reduceCtorEq] at h <;> subst h <;>
    (try subst_vars) <;> simp_all [eqGuard, binOp, Op.shift, Op.intArith, Op.intDiv, Op.intBits, Op.intCmp, Op.stringOp, Value.oneCell', IntKind.max, IntKind.signed, IntKind.bits] <;> (try omega)
inductive QOp where
  | mov (x : AX)
  | pick (c a b : AX)
  | bin (op : BinOp) (x y : AX)
  | beq (neg : Bool) (x y : AX)
  | not (x : AX)
  | cvi (k : IntKind) (x : AX)
  | slen (x : AX)
  | llen (x : AX)
  | ext (x : AX) (i : Nat)
  | fadr (off : Nat) (x : AX)
  | iadr (sz : Nat) (x i : AX)
  | fld (agg : Bool) (off n : Nat) (x : AX)
  | idx (x i : AX)
  | load (agg : Bool) (n : Nat) (x : AX)
  | nilc (x : AX)
  | subs (x : AX) (lo hi : Option AX)
  | subl (sz : Nat) (x : AX) (lo hi : Option AX)
  | sub3 (sz : Nat) (x : AX) (lo hi : Option AX) (mx : AX)
  | capn (x : AX)
  | mm (mn : Bool) (x y : AX)
  | mkf (f : FuncId) (caps : List AX)
  | bstr (x : AX)
  | aeq (neg : Bool) (offs : List (Nat × Nat)) (x y : AX)
  | radr (n sz : Nat) (x i : AX)
  | aidx (g : Bool) (n sz : Nat) (x i : AX)
  deriving Inhabited
def seq1 : Nat → AV → AV → Option Bool
  | 0, .sc (.string a), .sc (.string b) => some (a.toList == b.toList)
  | 1, .sc (.bool a), .sc (.bool b) => some (a == b)
  | 2, .sc (.int k a), .sc (.int k' b) => if k = k' then some (a == b) else none
  | _, _, _ => none
def eqOff : List (Nat × Nat) → List AV → List AV → Option Bool
  | [], _, _ => some true
  | (o, k) :: l, cs, ds => match cs[o]?, ds[o]? with
    | some a, some b => match seq1 k a b, eqOff l cs ds with
      | some r, some q => some (r && q)
      | _, _ => none
    | _, _ => none
def num8 : AV → Option Int
  | .sc (.int .u8 n) => some n
  | _ => none
def bytesA (h : Nat → Option (Option (List AV))) : AV → Option (List Int)
  | .em => some []
  | .ro cs len => if cs.length = len then cs.mapM num8 else none
  | .sl b off len _ _ => match h b with
    | some (some cs) => if off + len ≤ cs.length then ((cs.drop off).take len).mapM num8 else none
    | _ => none
  | _ => none
def natOf (ρ : Nat → AV) (d : Nat) : Option AX → Option Nat
  | none => some d
  | some x => match x.ev ρ with | .sc (.int _ n) => if 0 ≤ n then some n.toNat else none | _ => none
def aval (op : QOp) (ρ : Nat → AV) (h : Nat → Option (Option (List AV))) : Option AV :=
  match op with
  | .mov x => some (x.ev ρ)
  | .pick c a b => match c.ev ρ with | .sc (.bool t) => some (if t then a.ev ρ else b.ev ρ) | _ => none
  | .bin op x y => match x.ev ρ, y.ev ρ with | .sc u, .sc v => (sbin op u v).map .sc | _, _ => none
  | .beq neg x y => match x.ev ρ, y.ev ρ with | .sc (.bool u), .sc (.bool v) => some (.sc (.bool (if neg then !(u == v) else u == v))) | _, _ => none
  | .not x => match x.ev ρ with | .sc (.bool u) => some (.sc (.bool !u)) | _ => none
  | .cvi k x => match x.ev ρ with | .sc (.int _ n) => some (.sc (.int k (k.wrap n))) | _ => none
  | .slen x => match x.ev ρ with
    | .sc (.string s) => some (.sc (.int .i64 s.size))
    | _ => none
  | .llen x => match x.ev ρ with
    | .sl _ _ n _ _ => some (.sc (.int .i64 n))
    | .ro _ n => some (.sc (.int .i64 n))
    | .em => some (.sc (.int .i64 0))
    | .pf _ _ n _ _ => some (.sc (.int .i64 n))
    | _ => none
  | .capn x => match x.ev ρ with
    | .pf _ _ _ c _ => some (.sc (.int .i64 c))
    | _ => none
  | .mm mn x y => match x.ev ρ, y.ev ρ with
    | .sc (.int k m), .sc (.int _ n) => some (.sc (.int k (if (if mn then n < m else m < n) then n else m)))
    | _, _ => none
  | .ext x i => match x.ev ρ with | .tup cs => cs[i]? | _ => none
  | .fadr off x => match x.ev ρ with
    | .ref b o => some (.ref b (o + off))
    | .rp cs o => some (.rp cs (o + off))
    | _ => none
  | .iadr sz x i => match x.ev ρ, i.ev ρ with
    | .sl b off len sz' _, .sc (.int _ n) => if sz = sz' ∧ 0 ≤ n ∧ n < len then some (.ref b (off + n.toNat * sz)) else none
    | .ro cs len, .sc (.int _ n) => if 0 ≤ n ∧ n < len then some (.rp cs (n.toNat * sz)) else none
    | .pf b off len _ sz', .sc (.int _ n) => if sz = sz' ∧ 0 ≤ n ∧ n < len then some (.ref b (off + n.toNat * sz)) else none
    | _, _ => none
  | .fld agg off n x => match x.ev ρ with
    | .agg cs => if agg then (if off + n ≤ cs.length then some (.agg ((cs.drop off).take n)) else none) else cs[off]?
    | _ => none
  | .idx x i => match x.ev ρ, i.ev ρ with
    | .sc (.string s), .sc (.int _ n) => if 0 ≤ n then (s[n.toNat]?).map fun b => .sc (.int .u8 b.toNat) else none
    | _, _ => none
  | .load agg n x => (deref h (x.ev ρ)).bind fun l =>
    if agg then (if n ≤ l.length ∧ plain.plainL (l.take n) then some (.agg (l.take n)) else none)
    else match l with | y :: _ => if plain y then some y else none | [] => none
  | .nilc x => match x.ev ρ with | .ref b o => some (.ref b o) | .rp cs o => some (.rp cs o) | .clo f cs => some (.clo f cs) | _ => none
  | .subs x lo hi => match x.ev ρ with
    | .sc (.string s) => match natOf ρ 0 lo, natOf ρ s.size hi with
      | some l, some h => if l ≤ h ∧ h ≤ s.size then some (.sc (.string (s.extract l h))) else none
      | _, _ => none
    | _ => none
  | .subl sz x lo hi => match x.ev ρ with
    | .sl b off len sz' lim => match natOf ρ 0 lo, natOf ρ len hi with
      | some l, some h => if sz = sz' ∧ l ≤ h ∧ h ≤ len ∧ lim = false then some (.sl b (off + l * sz) (h - l) sz false) else none
      | _, _ => none
    | .ro cs len => match natOf ρ 0 lo, natOf ρ len hi with
      | some l, some h => if l ≤ h ∧ h ≤ len then some (.ro ((cs.drop (l * sz)).take ((h - l) * sz)) (h - l)) else none
      | _, _ => none
    | .em => match natOf ρ 0 lo, natOf ρ 0 hi with
      | some 0, some 0 => some .em
      | _, _ => none
    | .pf b off len cap sz' => match natOf ρ 0 lo, natOf ρ len hi with
      | some l, some h => if sz = sz' ∧ l ≤ h ∧ h ≤ cap then some (.pf b (off + l * sz) (h - l) (cap - l) sz) else none
      | _, _ => none
    | _ => none
  | .sub3 sz x lo hi mx => match x.ev ρ with
    | .sl b off len sz' _ => match natOf ρ 0 lo, natOf ρ len hi, natOf ρ 0 (some mx) with
      | some l, some h, some m => if sz = sz' ∧ l ≤ h ∧ h ≤ m ∧ m ≤ len then some (.sl b (off + l * sz) (h - l) sz false) else none
      | _, _, _ => none
    | .em => match natOf ρ 0 lo, natOf ρ 0 hi, natOf ρ 0 (some mx) with
      | some 0, some 0, some 0 => some .em
      | _, _, _ => none
    | _ => none
  | .mkf f caps => some (.clo f (caps.map (·.ev ρ)))
  | .aeq neg offs x y => match x.ev ρ, y.ev ρ with
    | .agg cs, .agg ds => (eqOff offs cs ds).map fun r => .sc (.bool (if neg then !r else r))
    | _, _ => none
  | .bstr x => (bytesA h (x.ev ρ)).map fun xs => .sc (.string (strOfNums xs))
  | .radr n sz x i => match x.ev ρ, i.ev ρ with
    | .ref b o, .sc (.int _ k) => if 0 ≤ k ∧ k < n then some (.ref b (o + k.toNat * sz)) else none
    | .rp cs o, .sc (.int _ k) => if 0 ≤ k ∧ k < n then some (.rp cs (o + k.toNat * sz)) else none
    | _, _ => none
  | .aidx g n sz x i => match x.ev ρ, i.ev ρ with
    | .agg cs, .sc (.int _ k) => if 0 ≤ k ∧ k < n then (if g then (if k.toNat * sz + sz ≤ cs.length then some (.agg ((cs.drop (k.toNat * sz)).take sz)) else none) else cs[k.toNat * sz]?) else none
    | _, _ => none
def eqCell (P : Program) (f : Field) : Option (Nat × Nat) :=
  if f.name == "_" then none else match P.underlying f.type with
    | some .string => some (f.offset, 0)
    | some .bool => some (f.offset, 1)
    | some (.int _) => some (f.offset, 2)
    | _ => none
def arrK (P : Program) (e : TypeId) : Option Nat :=
  match P.underlying e with
  | some .string => some 0
  | some .bool => some 1
  | some (.int _) => some 2
  | _ => none
def eqOffs (P : Program) (t : TypeId) : Option (List (Nat × Nat)) :=
  match P.underlying t with
  | some (.struct fs) => if P.stoodInHeld t || P.eqGuardType P.depth t then none else fs.toList.mapM (eqCell P)
  | some (.array n e) => if P.eqGuardType P.depth t then none else (P.info? e).bind fun i => (arrK P e).map fun k => (List.range n).map fun j => (j * i.size, k)
  | _ => none
def aggB (P : Program) (t : TypeId) : Option Bool :=
  match P.underlying t with
  | some (.struct _) | some (.array ..) => some true
  | some _ => some false
  | none => none
def szB (P : Program) (t : TypeId) : Option Nat := (P.info? t).map (·.size)
theorem run_isAggB {P : Program} {t : TypeId} {b : Bool} (h : aggB P t = some b) (w : World) : (isAgg t).run P w = .ok b w := by
  unfold aggB at h
  unfold isAgg underlying
  simp only [Sem.run_bind, run_program, Result.andThen_ok]
  cases hu : P.underlying t with
  | none => rw [hu] at h; cases h
  | some d => rw [hu] at h; cases d <;> simp at h <;> subst h <;> rfl
theorem run_sizeB {P : Program} {t : TypeId} {n : Nat} (h : szB P t = some n) (w : World) : (sizeOf t).run P w = .ok n w := by
  unfold szB at h
  unfold sizeOf typeInfo
  simp only [Sem.run_bind, run_program, Result.andThen_ok]
  cases hi : P.info? t with
  | none => rw [hi] at h; cases h
  | some i => rw [hi] at h; simp at h; subst h; rfl
theorem run_underB {P : Program} {t : TypeId} {d : TypeDesc} (h : P.underlying t = some d) (w : World) : (underlying t).run P w = .ok d w := by
  unfold underlying
  simp only [Sem.run_bind, run_program, Result.andThen_ok, h, Sem.run_pure]
end Go.Proofs.YtiejaibmcmicoaaGreatDoor.Am
