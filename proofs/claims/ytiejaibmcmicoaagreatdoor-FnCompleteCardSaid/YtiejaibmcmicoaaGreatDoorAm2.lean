/- The model's operations that write nothing do what the small machine's do; no condition. -/
import Derived.Test.YtiejaibmcmicoaaGreatDoorAm1
import Derived.ChangeKeysEq
namespace Go.Proofs.YtiejaibmcmicoaaGreatDoor.Am
open Go
def cxo : Option Operand → Option (Option AX)
  | none => some none
  | some y => (cx y).map some
def qop (P : Program) (o : Oper) : Option QOp :=
  match o.op with
  | .move x | .assign x => (cx x).map .mov
  | .pick c a b => (cx c).bind fun c => (cx a).bind fun a => (cx b).map fun b => .pick c a b
  | .binOp op t x y _ => (cx x).bind fun x => (cx y).bind fun y =>
    match P.underlying t, op with
    | some .bool, .eql => some (.beq false x y)
    | some .bool, .neq => some (.beq true x y)
    | some (.struct _), .eql => (eqOffs P t).map fun l => .aeq false l x y
    | some (.struct _), .neq => (eqOffs P t).map fun l => .aeq true l x y
    | some (.array ..), .eql => (eqOffs P t).map fun l => .aeq false l x y
    | some (.array ..), .neq => (eqOffs P t).map fun l => .aeq true l x y
    | _, _ => some (.bin op x y)
  | .unOp .not _ x => (cx x).map .not
  | .convert src dst x => (cx x).bind fun x => match P.underlying src, P.underlying dst with
    | some _, some (.int k) => some (.cvi k x)
    | some (.slice e), some .string => (match P.underlying e with | some (.int .u8) => some (.bstr x) | _ => none)
    | _, _ => none
  | .call { callee := .builtin .len, args, argTypes } =>
    match args.toList, argTypes[0]? with
    | [x], some t => (cx x).bind fun x => match P.underlying t with | some .string => some (.slen x) | some (.slice _) => some (.llen x) | _ => none
    | _, _ => none
  | .extract x i => (cx x).map fun x => .ext x i
  | .fieldAddr s x f => (cx x).bind fun x => match P.underlying s with
    | some (.struct fs) => match fs[f]? with
      | some f => match szB P f.type with | some (_ + 1) => some (.fadr f.offset x) | _ => none
      | none => none
    | _ => none
  | .indexAddr t x i => (cx x).bind fun x => (cx i).bind fun i => match P.underlying t with
    | some (.slice e) => (szB P e).map fun sz => .iadr sz x i
    | some (.array n e) => (szB P e).map fun sz => .radr n sz x i
    | _ => none
  | .field t x f => (cx x).bind fun x => match P.underlying t with
    | some (.struct fs) => match fs[f]? with
      | some f => (aggB P f.type).bind fun g => (szB P f.type).map fun n => .fld g f.offset n x
      | none => none
    | _ => none
  | .index t x i => (cx x).bind fun x => (cx i).bind fun i => match P.underlying t with
    | some .string => some (.idx x i)
    | some (.array n e) => (aggB P e).bind fun g => (szB P e).map fun sz => .aidx g n sz x i
    | _ => none
  | .load t x => (cx x).bind fun x => (aggB P t).bind fun g => (szB P t).map fun n => .load g n x
  | .nilCheck x => (cx x).map .nilc
  | .call { callee := .builtin .cap, args, argTypes } =>
    match args.toList, argTypes[0]? with
    | [x], some t => (cx x).bind fun x => match P.underlying t with | some (.slice _) => some (.capn x) | _ => none
    | _, _ => none
  | .call { callee := .builtin .max, args, argTypes := _ } =>
    match args.toList with
    | [x, y] => (cx x).bind fun x => (cx y).map fun y => .mm false x y
    | _ => none
  | .call { callee := .builtin .min, args, argTypes := _ } =>
    match args.toList with
    | [x, y] => (cx x).bind fun x => (cx y).map fun y => .mm true x y
    | _ => none
  | .slice t x lo (some hi) (some mx) => (cx x).bind fun x => (cx hi).bind fun hi => (cx mx).bind fun mx =>
    match cxo lo with
    | some lo => match P.underlying t with
      | some (.slice e) => (szB P e).map fun sz => .sub3 sz x lo (some hi) mx
      | _ => none
    | _ => none
  | .slice t x lo hi none => (cx x).bind fun x =>
    match cxo lo, cxo hi with
    | some lo, some hi => match P.underlying t with
      | some .string => some (.subs x lo hi)
      | some (.slice e) => (szB P e).map fun sz => .subl sz x lo hi
      | _ => none
    | _, _ => none
  | .makeFunc (.func f) first caps => match first.toList with
    | [] => (caps.toList.mapM cx).map fun cs => .mkf f cs
    | _ => none
  | _ => none
section inversions
variable {φ : Nat → Option Loc} {M : Nat → Prop} {w : World} {v : Value} {F : List Nat}
theorem vsc {u : Value} (h : V φ M w (.sc u) v F) : v = u ∧ u.oneCell' = true := by
  cases h with | imm _ _ h => cases h; exact ⟨rfl, by assumption⟩
theorem vsl {b off len sz : Nat} {lim : Bool} (h : V φ M w (.sl b off len sz lim) v F) :
    F = [] ∧ ((len = 0 ∧ ∃ A, v = .slice A 0 0) ∨ ∃ l c, φ b = some l ∧ v = .slice (some ⟨l.g, l.o + off, none⟩) len c ∧ len ≤ c ∧ l.o + off + c * sz ≤ l.n ∧ (lim = true → c = len)) := by
  cases h with
  | imm _ _ h => cases h
  | sl _ _ _ _ _ l c h h1 h2 h3 => exact ⟨rfl, .inr ⟨l, c, h, rfl, h1, h2, h3⟩⟩
  | slz => exact ⟨rfl, .inl ⟨rfl, _, rfl⟩⟩
theorem vslen {b off len sz : Nat} {lim : Bool} (h : V φ M w (.sl b off len sz lim) v F) : ∃ A c, v = .slice A len c := by
  obtain ⟨_, ⟨rfl, A, rfl⟩ | ⟨l, c, _, rfl, _⟩⟩ := vsl h <;> exact ⟨_, _, rfl⟩
theorem vpf {b off len cap sz : Nat} (h : V φ M w (.pf b off len cap sz) v F) :
    F = [] ∧ ((len = 0 ∧ cap = 0 ∧ ∃ A, v = .slice A 0 0) ∨ ∃ l, φ b = some l ∧ v = .slice (some ⟨l.g, l.o + off, none⟩) len cap ∧ len ≤ cap ∧ l.o + off + cap * sz ≤ l.n) := by
  cases h with
  | imm _ _ h => cases h
  | pf _ _ _ _ _ l h h1 h2 => exact ⟨rfl, .inr ⟨l, h, rfl, h1, h2⟩⟩
  | pfz => exact ⟨rfl, .inl ⟨rfl, rfl, _, rfl⟩⟩
theorem vpflen {b off len cap sz : Nat} (h : V φ M w (.pf b off len cap sz) v F) : ∃ A, v = .slice A len cap := by
  obtain ⟨_, ⟨rfl, rfl, A, rfl⟩ | ⟨l, _, rfl, _⟩⟩ := vpf h <;> exact ⟨_, rfl⟩
theorem vem (h : V φ M w .em v F) : ∃ A, v = .slice A 0 0 := by cases h with | imm _ _ h => cases h; exact ⟨_, rfl⟩
theorem vref {b off : Nat} (h : V φ M w (.ref b off) v F) : ∃ l, φ b = some l ∧ v = .pointer (some ⟨l.g, l.o + off, none⟩) := by
  cases h with
  | imm _ _ h => cases h
  | ref _ _ l h => exact ⟨l, h, rfl⟩
theorem vrp {cs : List AV} {off : Nat} (h : V φ M w (.rp cs off) v F) : ∃ g o us, v = .pointer (some ⟨g, o + off, none⟩) ∧ Ws M w cs us ∧ ∀ (j : Nat) (u : Value), us[j]? = some u → M g ∧ w.cell? ⟨g, o + j, none⟩ = some u := by
  cases h with | imm _ _ h => cases h with | rp _ _ g o us h1 hc ho h => exact ⟨g, o, us, rfl, ⟨h1, ho, h⟩, hc⟩
theorem vro {cs : List AV} {len : Nat} (h : V φ M w (.ro cs len) v F) : ∃ A c us, v = .slice A len c ∧ len ≤ c ∧ (0 < len → ∃ g o, A = some ⟨g, o, none⟩) ∧ Ws M w cs us ∧
    ∀ (j : Nat) (u : Value), us[j]? = some u → ∃ g o, A = some ⟨g, o, none⟩ ∧ M g ∧ w.cell? ⟨g, o + j, none⟩ = some u := by
  cases h with | imm _ _ h => cases h with | ro _ _ A c us h0 hA h1 hc ho h => exact ⟨A, c, us, rfl, h0, hA, ⟨h1, ho, h⟩, hc⟩
theorem vrolen {cs : List AV} {len : Nat} (h : V φ M w (.ro cs len) v F) : ∃ A c, v = .slice A len c := by
  obtain ⟨A, c, us, rfl, _⟩ := vro h; exact ⟨_, _, rfl⟩
theorem Ws.all {cs : List AV} {us : List Value} (h : Ws M w cs us) (φ : Nat → Option Loc) : ∀ (j : Nat) (x : AV) (u : Value), cs[j]? = some x → us[j]? = some u → V φ M w x u [] := fun j x u a b => .imm _ _ (h.2.2 j x u a b)
theorem Ws.cs {cs : List AV} {us : List Value} (h : Ws M w cs us) (φ : Nat → Option Loc) : Cs φ M w cs us [] := Cs.of_all h.1 h.2.1 (h.all φ)
theorem Ws.drop {cs : List AV} {us : List Value} (h : Ws M w cs us) (n : Nat) : Ws M w (cs.drop n) (us.drop n) :=
  ⟨by simp [h.1], fun u hu => h.2.1 u (List.mem_of_mem_drop hu), fun j x u a b => by rw [List.getElem?_drop] at a b; exact h.2.2 _ x u a b⟩
theorem Ws.take {cs : List AV} {us : List Value} (h : Ws M w cs us) (n : Nat) : Ws M w (cs.take n) (us.take n) :=
  ⟨by simp [h.1], fun u hu => h.2.1 u (List.mem_of_mem_take hu), fun j x u a b => by
    rw [List.getElem?_take] at a b
    split at a
    · rename_i hj; rw [if_pos hj] at b; exact h.2.2 _ x u a b
    · cases a⟩
theorem vagg {cs : List AV} (h : V φ M w (.agg cs) v F) : ∃ us, v = .agg us.toArray ∧ Cs φ M w cs us F := by
  cases h with
  | imm _ _ h => cases h with | agg _ us h1 ho h => exact ⟨us, rfl, Ws.cs ⟨h1, ho, h⟩ φ⟩
  | agg _ us Fs h1 h2 ho h => exact ⟨us, rfl, Fs, h1, h2, ho, rfl, h⟩
theorem vtup {cs : List AV} (h : V φ M w (.tup cs) v F) (hF : [] = F) : ∃ us : List Value, v = .tuple us.toArray ∧ us.length = cs.length ∧ ∀ (j : Nat) (x : AV) (u : Value), cs[j]? = some x → us[j]? = some u → V φ M w x u [] := by
  cases h with
  | imm _ _ h => cases h with | tup _ us h1 h => exact ⟨us, rfl, h1, fun j x u a b => .imm _ _ (h j x u a b)⟩
  | tup _ us Fs h1 h2 h =>
    refine ⟨us, rfl, h1, fun j x u a b => ?_⟩
    have hj : j < Fs.length := by rw [h2]; exact (List.getElem?_eq_some_iff.1 a).1
    have := h j x u _ a b (List.getElem?_eq_getElem hj)
    rw [List.flatten_eq_nil_iff.1 hF.symm _ (List.getElem_mem hj)] at this
    exact this
theorem vclo {f : FuncId} {cs : List AV} (h : V φ M w (.clo f cs) v F) (hF : [] = F) : ∃ us : List Value, v = .func (.func f) #[] us.toArray ∧ us.length = cs.length ∧ ∀ (j : Nat) (x : AV) (u : Value), cs[j]? = some x → us[j]? = some u → V φ M w x u [] := by
  cases h with
  | imm _ _ h => cases h with | clo _ _ us h1 h => exact ⟨us, rfl, h1, fun j x u a b => .imm _ _ (h j x u a b)⟩
  | clo _ _ us Fs h1 h2 h =>
    refine ⟨us, rfl, h1, fun j x u a b => ?_⟩
    have hj : j < Fs.length := by rw [h2]; exact (List.getElem?_eq_some_iff.1 a).1
    have := h j x u _ a b (List.getElem?_eq_getElem hj)
    rw [List.flatten_eq_nil_iff.1 hF.symm _ (List.getElem_mem hj)] at this
    exact this
theorem V.tupOf {cs : List AV} {us : List Value} (h1 : us.length = cs.length) (h : ∀ (j : Nat) (x : AV) (u : Value), cs[j]? = some x → us[j]? = some u → V φ M w x u []) : V φ M w (.tup cs) (.tuple us.toArray) [] := by
  have := V.tup (φ := φ) (M := M) (w := w) cs us (List.replicate cs.length []) h1 (by simp) (fun j x u F a b c => by
    obtain rfl : F = [] := (List.mem_replicate.1 (List.mem_of_getElem? c)).2
    exact h j x u a b)
  simpa using this
theorem V.cloOf {f : FuncId} {cs : List AV} {us : List Value} (h1 : us.length = cs.length) (h : ∀ (j : Nat) (x : AV) (u : Value), cs[j]? = some x → us[j]? = some u → V φ M w x u []) : V φ M w (.clo f cs) (.func (.func f) #[] us.toArray) [] := by
  have := V.clo (φ := φ) (M := M) (w := w) f cs us (List.replicate cs.length []) h1 (by simp) (fun j x u F a b c => by
    obtain rfl : F = [] := (List.mem_replicate.1 (List.mem_of_getElem? c)).2
    exact h j x u a b)
  simpa using this
end inversions
section
variable {E : Ent} {φ : Nat → Option Loc} {M : Nat → Prop} {L : Nat → List Nat} {st : St} {a : Act} {w : World} {P : Program} {o : Oper}
abbrev Does (φ : Nat → Option Loc) (M : Nat → Prop) (a : Act) (w : World) (P : Program) (o : Oper) (x : AV) : Prop :=
  ∃ v, (execOp a.eval o).run P w = .ok (.value v) w ∧ V φ M w x v []
theorem q_mov {x : Operand} {x' : AX} (ho : o.op = .move x ∨ o.op = .assign x) (hx : cx x = some x') (I : Inv E φ M L st a.tmps w) : Does φ M a w P o (x'.ev st.ρ) := by
  refine ⟨a.eval x, ?_, I.ev hx⟩
  rcases ho with ho | ho <;> simp [execOp, ho]
theorem q_pick {c x y : Operand} {c' x' y' : AX} (ho : o.op = .pick c x y) (hc : cx c = some c') (hx : cx x = some x') (hy : cx y = some y') (I : Inv E φ M L st a.tmps w) {t : Bool} (ht : c'.ev st.ρ = .sc (.bool t)) :
    Does φ M a w P o (if t then x'.ev st.ρ else y'.ev st.ρ) := by
  have h1 := I.ev hc
  rw [ht] at h1
  obtain ⟨h1, _⟩ := vsc h1
  refine ⟨if t then a.eval x else a.eval y, ?_, ?_⟩
  · simp [execOp, ho, h1, asBool]
  · cases t
    · exact I.ev hy
    · exact I.ev hx
theorem q_bin {op : BinOp} {t ty : TypeId} {x y : Operand} {x' y' : AX} (ho : o.op = .binOp op t x y ty) (hx : cx x = some x') (hy : cx y = some y') (I : Inv E φ M L st a.tmps w) {u v r : Value}
    (hu : x'.ev st.ρ = .sc u) (hv : y'.ev st.ρ = .sc v) (hr : sbin op u v = some r) : Does φ M a w P o (.sc r) := by
  have h1 := I.ev hx
  have h2 := I.ev hy
  rw [hu] at h1
  rw [hv] at h2
  obtain ⟨h1, _⟩ := vsc h1
  obtain ⟨h2, _⟩ := vsc h2
  obtain ⟨h3, h4⟩ := sbin_run hr P t x y w
  refine ⟨r, ?_, V.sc r h4⟩
  simp only [Sem.run_bind] at h3
  simp only [execOp, ho, h1, h2, Sem.run_bind, Sem.run_pure]
  cases he : (eqGuard op t x y u v).run P w with
  | halt _ _ => rw [he] at h3; cases h3
  | ok r' w' => rw [he] at h3; simp only [Result.andThen_ok] at h3 ⊢; rw [h3]; rfl
theorem q_beq {op : BinOp} {t ty : TypeId} {x y : Operand} {x' y' : AX} (neg : Bool) (hop : op = if neg then .neq else .eql) (ht : P.underlying t = some .bool) (ho : o.op = .binOp op t x y ty) (hx : cx x = some x') (hy : cx y = some y') (I : Inv E φ M L st a.tmps w) {u v : Bool}
    (hu : x'.ev st.ρ = .sc (.bool u)) (hv : y'.ev st.ρ = .sc (.bool v)) : Does φ M a w P o (.sc (.bool (if neg then !(u == v) else u == v))) := by
  have h1 := I.ev hx
  have h2 := I.ev hy
  rw [hu] at h1
  rw [hv] at h2
  obtain ⟨h1, _⟩ := vsc h1
  obtain ⟨h2, _⟩ := vsc h2
  refine ⟨_, ?_, V.sc _ rfl⟩
  cases neg <;> simp only [if_true, if_false, Bool.false_eq_true] at hop <;> subst hop
  · simp only [execOp, ho, h1, h2, Sem.run_bind, Sem.run_pure]
    rw [show (eqGuard .eql t x y (.bool u) (.bool v)).run P w = .ok () w by simp [eqGuard]]
    simp only [Result.andThen_ok, run_eql_bool w t u v ht]
    simp
  · simp only [execOp, ho, h1, h2, Sem.run_bind, Sem.run_pure]
    rw [show (eqGuard .neq t x y (.bool u) (.bool v)).run P w = .ok () w by simp [eqGuard]]
    simp only [Result.andThen_ok, run_neq_bool w t u v ht]
    simp
theorem q_not {t : TypeId} {x : Operand} {x' : AX} (ho : o.op = .unOp .not t x) (hx : cx x = some x') (I : Inv E φ M L st a.tmps w) {u : Bool} (hu : x'.ev st.ρ = .sc (.bool u)) : Does φ M a w P o (.sc (.bool !u)) := by
  have h1 := I.ev hx
  rw [hu] at h1
  obtain ⟨h1, _⟩ := vsc h1
  exact ⟨_, by simp [execOp, ho, h1, Op.unary], V.sc _ rfl⟩
theorem q_cvi {s t : TypeId} {d : TypeDesc} {k k' : IntKind} {n : Int} {x : Operand} {x' : AX} (ho : o.op = .convert s t x) (hs : P.underlying s = some d) (ht : P.underlying t = some (.int k)) (hx : cx x = some x') (I : Inv E φ M L st a.tmps w)
    (hu : x'.ev st.ρ = .sc (.int k' n)) : Does φ M a w P o (.sc (.int k (k.wrap n))) := by
  have h1 := I.ev hx
  rw [hu] at h1
  obtain ⟨h1, _⟩ := vsc h1
  refine ⟨_, ?_, V.sc _ rfl⟩
  simp [execOp, ho, h1, convert, run_underB hs, run_underB ht, Conv.intToInt]
theorem mapM_num8 : ∀ {l : List AV} {xs : List Int}, l.mapM num8 = some xs → l = xs.map fun n => .sc (.int .u8 n)
  | [], xs, h => by simp at h; subst h; rfl
  | x :: l, xs, h => by
    simp only [List.mapM_cons, Option.bind_eq_bind, Option.bind_eq_some_iff, Option.pure_def, Option.some.injEq] at h
    obtain ⟨n, hn, ns, hns, rfl⟩ := h
    unfold num8 at hn
    split at hn <;> cases hn
    rw [mapM_num8 hns, List.map_cons]
theorem conv_bytes {src dst e : TypeId} (hs : P.underlying src = some (.slice e)) (he : P.underlying e = some (.int .u8)) (hd : P.underlying dst = some .string) {A : Option Addr} {len c : Nat} {xs : List Int} (hl : xs.length = len)
    (hc : ∀ (j : Nat) (n : Int), xs[j]? = some n → ∃ g o, A = some ⟨g, o, none⟩ ∧ w.cell? ⟨g, o + j, none⟩ = some (.int .u8 n)) : (convert src dst (.slice A len c)).run P w = .ok (.string (strOfNums xs)) w := by
  cases xs with
  | nil =>
    simp at hl
    subst hl
    cases A with
    | none => exact run_convert_bytes_nil w src e hs he 0 c dst hd
    | some a =>
      rw [run_convert_bytes_string w src dst e _ 0 c hs he hd]
      simp [Conv.bytesToString, loadCells, strOfNums]
      rfl
  | cons n xs =>
    obtain ⟨g, o, rfl, _⟩ := hc 0 n rfl
    refine run_convert_bytes_arg w src e hs he g o len c (n :: xs) hl (fun i hi => ?_) dst hd
    have hi' : (n :: xs)[i]? = some ((n :: xs).getD i 0) := by
      rw [List.getD_eq_getElem?_getD, List.getElem?_eq_getElem (by omega)]; rfl
    obtain ⟨g', o', e', hcell⟩ := hc i _ hi'
    cases e'
    exact hcell
theorem q_len {args : Array Operand} {ts : Array TypeId} {t : TypeId} {x : Operand} {x' : AX} (ho : o.op = .call { callee := .builtin .len, args := args, argTypes := ts }) (ha : args.toList = [x]) (hts : ts[0]? = some t) (hx : cx x = some x')
    (I : Inv E φ M L st a.tmps w) {n : Nat}
    (hu : (∃ s, x'.ev st.ρ = .sc (.string s) ∧ n = s.size ∧ P.underlying t = some .string) ∨ ((∃ e, P.underlying t = some (.slice e)) ∧ ((∃ b off sz lim, x'.ev st.ρ = .sl b off n sz lim) ∨ (∃ cs, x'.ev st.ρ = .ro cs n) ∨ (x'.ev st.ρ = .em ∧ n = 0) ∨ (∃ b off cap sz, x'.ev st.ρ = .pf b off n cap sz)))) :
    Does φ M a w P o (.sc (.int .i64 n)) := by
  obtain rfl : args = #[x] := by rw [← Array.toList_inj]; exact ha
  have h1 := I.ev hx
  rcases hu with ⟨s, hs, rfl, ht⟩ | ⟨⟨e, ht⟩, hu⟩
  · rw [hs] at h1
    obtain ⟨h1, _⟩ := vsc h1
    refine ⟨_, ?_, V.sc _ rfl⟩
    simp [execOp, ho, resolve, invoke, builtin, Builtin.len_, hts, h1, run_underB ht, goInt]
  · obtain ⟨A, c, h2⟩ : ∃ A c, a.eval x = .slice A n c := by
      rcases hu with ⟨b, off, sz, lim, hu⟩ | ⟨cs, hu⟩ | ⟨hu, rfl⟩ | ⟨b, off, cap, sz, hu⟩ <;> rw [hu] at h1
      · exact vslen h1
      · exact vrolen h1
      · exact (vem h1).imp fun A h => ⟨0, h⟩
      · exact (vpflen h1).imp fun A h => ⟨cap, h⟩
    refine ⟨_, ?_, V.sc _ rfl⟩
    simp [execOp, ho, resolve, invoke, builtin, Builtin.len_, hts, h2, run_underB ht, goInt]
theorem add_none (g o n : Nat) : (⟨g, o, none⟩ : Addr).add n = ⟨g, o + n, none⟩ := by unfold Addr.add; split <;> simp_all
theorem q_ext {x : Operand} {x' : AX} {i : Nat} (ho : o.op = .extract x i) (hx : cx x = some x') (I : Inv E φ M L st a.tmps w) {cs : List AV} (hu : x'.ev st.ρ = .tup cs) {y : AV} (hy : cs[i]? = some y) : Does φ M a w P o y := by
  have h1 := I.ev hx
  rw [hu] at h1
  obtain ⟨us, h1, h2, h3⟩ := vtup h1 rfl
  have hi : i < us.length := by rw [h2]; exact (List.getElem?_eq_some_iff.1 hy).1
  refine ⟨us[i], ?_, h3 i y _ hy (List.getElem?_eq_getElem hi)⟩
  simp [execOp, ho, h1, Instr.extract, hi]
theorem run_fieldPlace {g oo : Nat} {f : Field} {n : Nat} (h : szB P f.type = some (n + 1)) : (fieldPlace ⟨g, oo, none⟩ f).run P w = .ok ⟨g, oo + f.offset, none⟩ w := by
  simp [fieldPlace, run_sizeB h, add_none]
theorem q_fadr {s : TypeId} {x : Operand} {x' : AX} {i : Nat} {fs : Array Field} {f : Field} {n : Nat} (ho : o.op = .fieldAddr s x i) (hs : P.underlying s = some (.struct fs)) (hf : fs[i]? = some f) (hn : szB P f.type = some (n + 1)) (hx : cx x = some x') (I : Inv E φ M L st a.tmps w) {y : AV}
    (hy : aval (.fadr f.offset x') st.ρ st.h = some y) : Does φ M a w P o y := by
  have h1 := I.ev hx
  simp only [aval] at hy
  split at hy <;> (try cases hy)
  · rename_i b oo hu
    rw [hu] at h1
    obtain ⟨l, hl, h1⟩ := vref h1
    refine ⟨_, ?_, .ref b _ l hl⟩
    simp [execOp, ho, Instr.fieldAt, run_underB hs, hf, h1, Instr.sureAddr, run_fieldPlace hn, Nat.add_assoc]
  · rename_i cs oo hu
    rw [hu] at h1
    obtain ⟨g, o', us, h1, hc, hm⟩ := vrp h1
    refine ⟨_, ?_, .imm _ _ (.rp cs (oo + f.offset) g o' us hc.1 hm hc.2.1 hc.2.2)⟩
    simp [execOp, ho, Instr.fieldAt, run_underB hs, hf, h1, Instr.sureAddr, run_fieldPlace hn, Nat.add_assoc]
theorem q_iadr {t e : TypeId} {x i : Operand} {x' i' : AX} {sz : Nat} (ho : o.op = .indexAddr t x i) (ht : P.underlying t = some (.slice e)) (hz : szB P e = some sz) (hx : cx x = some x') (hi : cx i = some i') (I : Inv E φ M L st a.tmps w) {y : AV}
    (hy : aval (.iadr sz x' i') st.ρ st.h = some y) : Does φ M a w P o y := by
  have h1 := I.ev hx
  have h2 := I.ev hi
  simp only [aval] at hy
  split at hy <;> (try cases hy)
  · rename_i b off len sz' lim k n hu hv
    split at hy <;> (try cases hy)
    rename_i hc
    obtain ⟨rfl, h0, hlt⟩ := hc
    rw [hu] at h1
    rw [hv] at h2
    obtain ⟨h2, _⟩ := vsc h2
    obtain ⟨_, h1⟩ := vsl h1
    rcases h1 with ⟨rfl, _⟩ | ⟨l, c, hl, h1, _⟩
    · simp at hlt; omega
    · refine ⟨_, ?_, .ref b _ l hl⟩
      simp [execOp, ho, Instr.indexAt, h2, asIntOf, h1, run_underB ht, h0, hlt, run_sizeB hz, add_none, Nat.add_assoc]
  · rename_i cs len k n hu hv
    split at hy <;> (try cases hy)
    rename_i hc
    obtain ⟨h0, hlt⟩ := hc
    rw [hu] at h1
    rw [hv] at h2
    obtain ⟨h2, _⟩ := vsc h2
    obtain ⟨A, c, us, h1, _, hA, hcs, hm⟩ := vro h1
    obtain ⟨g, oo, rfl⟩ := hA (by omega)
    refine ⟨_, ?_, .imm _ _ (.rp cs (n.toNat * sz) g oo us hcs.1 (fun j u hj => ?_) hcs.2.1 hcs.2.2)⟩
    · simp [execOp, ho, Instr.indexAt, h2, asIntOf, h1, run_underB ht, h0, hlt, run_sizeB hz, add_none]
    · obtain ⟨g', o', e1, e2, e3⟩ := hm j u hj
      cases e1
      exact ⟨e2, e3⟩
  · rename_i b off len cap sz' k n hu hv
    split at hy <;> (try cases hy)
    rename_i hc
    obtain ⟨rfl, h0, hlt⟩ := hc
    rw [hu] at h1
    rw [hv] at h2
    obtain ⟨h2, _⟩ := vsc h2
    obtain ⟨_, h1⟩ := vpf h1
    rcases h1 with ⟨rfl, _⟩ | ⟨l, hl, h1, _⟩
    · simp at hlt; omega
    · refine ⟨_, ?_, .ref b _ l hl⟩
      simp [execOp, ho, Instr.indexAt, h2, asIntOf, h1, run_underB ht, h0, hlt, run_sizeB hz, add_none, Nat.add_assoc]
theorem q_fld {t : TypeId} {x : Operand} {x' : AX} {i : Nat} {fs : Array Field} {f : Field} {g : Bool} {n : Nat} (ho : o.op = .field t x i) (hs : P.underlying t = some (.struct fs)) (hf : fs[i]? = some f) (hg : aggB P f.type = some g) (hn : szB P f.type = some n) (hx : cx x = some x') (I : Inv E φ M L st a.tmps w) {y : AV}
    (hy : aval (.fld g f.offset n x') st.ρ st.h = some y) : Does φ M a w P o y := by
  have h1 := I.ev hx
  simp only [aval] at hy
  split at hy <;> (try cases hy)
  rename_i cs hu
  rw [hu] at h1
  obtain ⟨us, h1, hc⟩ := vagg h1
  split at hy
  · rename_i hg'
    subst hg'
    split at hy <;> (try cases hy)
    rename_i hle
    refine ⟨_, ?_, V.aggOf ((hc.drop f.offset).take n)⟩
    simp [execOp, ho, Instr.field, run_underB hs, hf, h1, asAgg, part, run_isAggB hg, run_sizeB hn]
  · rename_i hg'
    have hg' : g = false := by simpa using hg'
    subst hg'
    have hi : f.offset < us.length := by rw [hc.len]; exact (List.getElem?_eq_some_iff.1 hy).1
    refine ⟨us[f.offset], ?_, hc.all _ y _ hy (List.getElem?_eq_getElem hi)⟩
    simp [execOp, ho, Instr.field, run_underB hs, hf, h1, asAgg, part, run_isAggB hg, hi]
theorem q_idx {t : TypeId} {x i : Operand} {x' i' : AX} (ho : o.op = .index t x i) (ht : P.underlying t = some .string) (hx : cx x = some x') (hi : cx i = some i') (I : Inv E φ M L st a.tmps w) {y : AV}
    (hy : aval (.idx x' i') st.ρ st.h = some y) : Does φ M a w P o y := by
  have h1 := I.ev hx
  have h2 := I.ev hi
  simp only [aval] at hy
  split at hy <;> (try cases hy)
  rename_i s k n hu hv
  split at hy <;> (try cases hy)
  rename_i h0
  rw [hu] at h1
  rw [hv] at h2
  obtain ⟨h1, _⟩ := vsc h1
  obtain ⟨h2, _⟩ := vsc h2
  cases hb : s[n.toNat]? with
  | none => rw [hb] at hy; cases hy
  | some b =>
    rw [hb] at hy
    simp only [Option.map_some, Option.some.injEq] at hy
    subst hy
    refine ⟨_, ?_, V.sc _ rfl⟩
    simp [execOp, ho, Instr.index, h1, h2, asIntOf, run_underB ht, h0, hb]
theorem q_radr {t e : TypeId} {x i : Operand} {x' i' : AX} {n sz : Nat} (ho : o.op = .indexAddr t x i) (ht : P.underlying t = some (.array n e)) (hz : szB P e = some sz) (hx : cx x = some x') (hi : cx i = some i') (I : Inv E φ M L st a.tmps w) {y : AV}
    (hy : aval (.radr n sz x' i') st.ρ st.h = some y) : Does φ M a w P o y := by
  have h1 := I.ev hx
  have h2 := I.ev hi
  simp only [aval] at hy
  split at hy <;> (try cases hy)
  · rename_i b oo k n' hu hv
    split at hy <;> (try cases hy)
    rename_i hc
    rw [hu] at h1
    rw [hv] at h2
    obtain ⟨h2, _⟩ := vsc h2
    obtain ⟨l, hl, h1⟩ := vref h1
    refine ⟨_, ?_, .ref b _ l hl⟩
    simp [execOp, ho, Instr.indexAt, Instr.sureAddr, h2, asIntOf, h1, run_underB ht, hc.1, hc.2, run_sizeB hz, add_none, Nat.add_assoc]
  · rename_i cs oo k n' hu hv
    split at hy <;> (try cases hy)
    rename_i hc
    rw [hu] at h1
    rw [hv] at h2
    obtain ⟨h2, _⟩ := vsc h2
    obtain ⟨g, o', us, h1, hcs, hm⟩ := vrp h1
    refine ⟨_, ?_, .imm _ _ (.rp cs (oo + n'.toNat * sz) g o' us hcs.1 hm hcs.2.1 hcs.2.2)⟩
    simp [execOp, ho, Instr.indexAt, Instr.sureAddr, h2, asIntOf, h1, run_underB ht, hc.1, hc.2, run_sizeB hz, add_none, Nat.add_assoc]
theorem q_aidx {t e : TypeId} {x i : Operand} {x' i' : AX} {g : Bool} {n sz : Nat} (ho : o.op = .index t x i) (ht : P.underlying t = some (.array n e)) (hg : aggB P e = some g) (hz : szB P e = some sz) (hx : cx x = some x') (hi : cx i = some i') (I : Inv E φ M L st a.tmps w) {y : AV}
    (hy : aval (.aidx g n sz x' i') st.ρ st.h = some y) : Does φ M a w P o y := by
  have h1 := I.ev hx
  have h2 := I.ev hi
  simp only [aval] at hy
  split at hy <;> (try cases hy)
  rename_i cs k m hu hv
  split at hy <;> (try cases hy)
  rename_i hc
  rw [hu] at h1
  rw [hv] at h2
  obtain ⟨h2, _⟩ := vsc h2
  obtain ⟨us, h1, hcs⟩ := vagg h1
  cases g with
  | true =>
    rw [if_pos rfl] at hy
    split at hy <;> (try cases hy)
    rename_i hle
    refine ⟨_, ?_, V.aggOf ((hcs.drop (m.toNat * sz)).take sz)⟩
    simp [execOp, ho, Instr.index, h1, h2, asIntOf, run_underB ht, hc.1, hc.2, part, run_isAggB hg, run_sizeB hz]
  | false =>
    rw [if_neg (by simp)] at hy
    have hi : m.toNat * sz < us.length := by rw [hcs.len]; exact (List.getElem?_eq_some_iff.1 hy).1
    refine ⟨us[m.toNat * sz], ?_, hcs.all _ y _ hy (List.getElem?_eq_getElem hi)⟩
    simp [execOp, ho, Instr.index, h1, h2, asIntOf, run_underB ht, hc.1, hc.2, part, run_isAggB hg, run_sizeB hz, hi]
theorem deref_ok (I : Inv E φ M L st a.tmps w) {x : AV} {v : Value} {F : List Nat} (h : V φ M w x v F) {l : List AV} (hl : deref st.h x = some l) :
    ∃ (g oo : Nat) (us : List Value), v = .pointer (some ⟨g, oo, none⟩) ∧ us.length = l.length ∧ (∀ (j : Nat) (u : Value), us[j]? = some u → w.cell? ⟨g, oo + j, none⟩ = some u) ∧ (∀ u ∈ us, u.oneCell' = true) ∧
      ∀ (j : Nat) (y : AV) (u : Value), l[j]? = some y → us[j]? = some u → plain y = true → V φ M w y u [] := by
  unfold deref at hl
  split at hl
  · split at hl <;> (try cases hl)
    rename_i b off _ cs hb
    obtain ⟨l, h1, rfl⟩ := vref h
    rcases I.root b cs hb with ⟨rfl, h2, _⟩ | ⟨l', C, us, F, h2, hB, hn, hc, hcells, _⟩
    · rw [h1] at h2; cases h2
    · rw [h1] at h2
      cases h2
      refine ⟨l.g, l.o + off, us.drop off, rfl, by simp [hc.len], ?_, fun u hu => hc.one u (List.mem_of_mem_drop hu), ?_⟩
      · intro j u hj
        rw [List.getElem?_drop] at hj
        rw [hB.cell, Nat.add_assoc]
        exact hcells _ u hj
      · intro j y u hy hj hp
        rw [List.getElem?_drop] at hj hy
        obtain ⟨Fs, e1, e2, _, e4, e5⟩ := hc
        have hk : off + j < Fs.length := by rw [e2]; exact (List.getElem?_eq_some_iff.1 hy).1
        have := e5 _ y u _ hy hj (List.getElem?_eq_getElem hk)
        have e := this.nofoot hp
        rw [e] at this
        exact this
  · rename_i cs off
    cases hl
    obtain ⟨g, oo, us, rfl, hc, hcells⟩ := vrp h
    refine ⟨g, oo + off, us.drop off, rfl, by simp [hc.1], ?_, fun u hu => hc.2.1 u (List.mem_of_mem_drop hu), ?_⟩
    · intro j u hj
      rw [List.getElem?_drop] at hj
      rw [Nat.add_assoc]
      exact (hcells _ u hj).2
    · intro j y u hy hj _
      rw [List.getElem?_drop] at hj hy
      exact hc.all φ _ y u hy hj
  · cases hl
theorem run_loadCells_of {g oo n : Nat} {us : List Value} (hn : n ≤ us.length) (h : ∀ (j : Nat) (u : Value), us[j]? = some u → w.cell? ⟨g, oo + j, none⟩ = some u) :
    (loadCells ⟨g, oo, none⟩ n).run P w = .ok (us.take n).toArray w := by
  have := run_loadCells_list (P := P) w ⟨g, oo, none⟩ (us.take n) (fun j v hj => by
    rw [add_none]
    rw [List.getElem?_take] at hj
    split at hj
    · exact h j v hj
    · cases hj)
  rw [List.length_take, Nat.min_eq_left hn] at this
  exact this
theorem q_bstr {s t e : TypeId} {x : Operand} {x' : AX} (ho : o.op = .convert s t x) (hs : P.underlying s = some (.slice e)) (he : P.underlying e = some (.int .u8)) (ht : P.underlying t = some .string) (hx : cx x = some x') (I : Inv E φ M L st a.tmps w) {y : AV}
    (hy : aval (.bstr x') st.ρ st.h = some y) : Does φ M a w P o y := by
  have h1 := I.ev hx
  simp only [aval] at hy
  obtain ⟨xs, hxs, rfl⟩ := Option.map_eq_some_iff.1 hy
  have fin : ∀ {A : Option Addr} {len c : Nat}, a.eval x = .slice A len c → xs.length = len → (∀ (j : Nat) (n : Int), xs[j]? = some n → ∃ g o, A = some ⟨g, o, none⟩ ∧ w.cell? ⟨g, o + j, none⟩ = some (.int .u8 n)) → Does φ M a w P o (.sc (.string (strOfNums xs))) := fun h2 h3 h4 =>
    ⟨_, by simp only [execOp, ho, h2, Sem.run_bind, conv_bytes hs he ht h3 h4, Result.andThen_ok, Sem.run_pure], V.sc _ rfl⟩
  unfold bytesA at hxs
  split at hxs
  · rename_i hev
    cases hxs
    rw [hev] at h1
    obtain ⟨A, h2⟩ := vem h1
    exact fin h2 rfl (by simp)
  · rename_i cs len hev
    split at hxs <;> (try cases hxs)
    rename_i hlen
    rw [hev] at h1
    obtain ⟨A, c, us, h2, h3, h4, ⟨k1, k2, k3⟩, k4⟩ := vro h1
    have hcs := mapM_num8 hxs
    refine fin h2 (by rw [← hlen, hcs, List.length_map]) fun j n hj => ?_
    have hcj : cs[j]? = some (.sc (.int .u8 n)) := by rw [hcs, List.getElem?_map, hj]; rfl
    have hju : j < us.length := by rw [k1]; exact (List.getElem?_eq_some_iff.1 hcj).1
    obtain ⟨u, huj⟩ : ∃ u, us[j]? = some u := ⟨_, List.getElem?_eq_getElem hju⟩
    obtain ⟨g, o', e1, _, e2⟩ := k4 j u huj
    have e3 := (vsc (φ := φ) (V.imm _ _ (k3 j _ u hcj huj))).1
    exact ⟨g, o', e1, e3 ▸ e2⟩
  · rename_i b off len sz lim hev
    split at hxs <;> (try cases hxs)
    rename_i cs hb
    split at hxs <;> (try cases hxs)
    rename_i hle
    rw [hev] at h1
    have hcs := mapM_num8 hxs
    have hlen : xs.length = len := by
      have := congrArg List.length hcs
      simp only [List.length_take, List.length_drop, List.length_map] at this
      omega
    obtain ⟨_, ⟨rfl, A, h2⟩ | ⟨l, c, hφ, h2, _⟩⟩ := vsl h1
    · exact fin h2 hlen fun j n hj => by
        rw [List.length_eq_zero_iff.1 hlen] at hj; simp at hj
    · obtain ⟨g, oo, us, e, k1, k2, k3, k4⟩ := deref_ok I (V.ref (M := M) (w := w) b off l hφ) (l := cs.drop off) (by simp only [deref, hb])
      cases e
      refine fin h2 hlen fun j n hj => ?_
      have hjl : j < len := by rw [← hlen]; exact (List.getElem?_eq_some_iff.1 hj).1
      have hcj : (cs.drop off)[j]? = some (.sc (.int .u8 n)) := by
        have : ((cs.drop off).take len)[j]? = some (.sc (.int .u8 n)) := by rw [hcs, List.getElem?_map, hj]; rfl
        rw [List.getElem?_take, if_pos hjl] at this
        exact this
      have hju : j < us.length := by rw [k1]; exact (List.getElem?_eq_some_iff.1 hcj).1
      obtain ⟨u, huj⟩ : ∃ u, us[j]? = some u := ⟨_, List.getElem?_eq_getElem hju⟩
      have e3 := (vsc (k4 j _ u hcj huj rfl)).1
      exact ⟨_, _, rfl, e3 ▸ k2 j u huj⟩
  · cases hxs
theorem run_part_one {t : TypeId} {cs : Array Value} {off : Nat} {v : Value} (h : aggB P t = some false) (hv : cs[off]? = some v) : (part t cs off).run P w = .ok v w := by
  simp [part, run_isAggB h, hv]
theorem seq1_run {d : Nat} {f : Field} {a b : AV} {u v : Value} {n k : Nat} {r : Bool} (hf : eqCell P f = some (n, k)) (hu : V φ M w a u []) (hv : V φ M w b v []) (hr : seq1 k a b = some r) : aggB P f.type = some false ∧ (Op.equalIn (d + 1) f.type u v).run P w = .ok r w ∧ f.offset = n ∧ f.name ≠ "_" := by
  unfold eqCell at hf
  split at hf
  · cases hf
  rename_i hn
  have hn : f.name ≠ "_" := by simpa using hn
  split at hf <;> cases hf <;> rename_i ht <;> unfold seq1 at hr
  · split at hr <;> (try cases hr) <;> rename_i e <;> (try cases e)
    have e1 := (vsc hu).1
    have e2 := (vsc hv).1
    subst e1; subst e2
    exact ⟨by simp [aggB, ht], run_equalIn_string w d f.type _ _ ht, rfl, hn⟩
  · split at hr <;> (try cases hr) <;> rename_i e <;> (try cases e)
    have e1 := (vsc hu).1
    have e2 := (vsc hv).1
    subst e1; subst e2
    exact ⟨by simp [aggB, ht], run_equalIn_bool' w d f.type _ _ ht, rfl, hn⟩
  · split at hr <;> (try cases hr) <;> rename_i e <;> (try cases e)
    split at hr <;> cases hr
    rename_i hk
    subst hk
    have e1 := (vsc hu).1
    have e2 := (vsc hv).1
    subst e1; subst e2
    exact ⟨by simp [aggB, ht], run_equalIn_int w d f.type _ _ _ _ ht, rfl, hn⟩
theorem eqOff_run {d : Nat} {cs ds : List AV} {us vs : List Value} (hu : Cs φ M w cs us []) (hv : Cs φ M w ds vs []) : ∀ {fs : List Field} {offs : List (Nat × Nat)} {r : Bool}, fs.mapM (eqCell P) = some offs → eqOff offs cs ds = some r → (Op.eqFields (d + 1) us.toArray vs.toArray fs).run P w = .ok r w
  | [], offs, r, hf, hr => by
    simp at hf; subst hf
    cases hr
    simp [Op.eqFields]
  | f :: fs, offs, r, hf, hr => by
    simp only [List.mapM_cons, Option.bind_eq_bind, Option.bind_eq_some_iff, Option.pure_def, Option.some.injEq] at hf
    obtain ⟨⟨n, k⟩, hk, offs', hfs, rfl⟩ := hf
    unfold eqOff at hr
    split at hr <;> (try cases hr)
    rename_i a b ha hb
    split at hr <;> cases hr
    rename_i r1 q hr1 hq
    have hna : n < us.length := by rw [hu.len]; exact (List.getElem?_eq_some_iff.1 ha).1
    have hnb : n < vs.length := by rw [hv.len]; exact (List.getElem?_eq_some_iff.1 hb).1
    obtain ⟨u, hua⟩ : ∃ u, us[n]? = some u := ⟨_, List.getElem?_eq_getElem hna⟩
    obtain ⟨v, hvb⟩ : ∃ v, vs[n]? = some v := ⟨_, List.getElem?_eq_getElem hnb⟩
    obtain ⟨h1, h2, rfl, h4⟩ := seq1_run (d := d) hk (hu.all n a _ ha hua) (hv.all n b _ hb hvb) hr1
    have p1 := run_part_one (P := P) (w := w) (t := f.type) (cs := us.toArray) (off := f.offset) h1 (by simpa using hua)
    have p2 := run_part_one (P := P) (w := w) (t := f.type) (cs := vs.toArray) (off := f.offset) h1 (by simpa using hvb)
    rw [Op.eqFields]
    simp only [if_pos h4, Sem.run_bind, p1, p2, h2, Result.andThen_ok]
    cases r1
    · simp
    · simpa using eqOff_run hu hv hfs hq
theorem seqK_run {d : Nat} {e : TypeId} {a b : AV} {u v : Value} {k : Nat} {r : Bool} (hk : arrK P e = some k) (hu : V φ M w a u []) (hv : V φ M w b v []) (hr : seq1 k a b = some r) : aggB P e = some false ∧ (Op.equalIn (d + 1) e u v).run P w = .ok r w := by
  unfold arrK at hk
  split at hk <;> cases hk <;> rename_i ht <;> unfold seq1 at hr
  · split at hr <;> (try cases hr) <;> rename_i e <;> (try cases e)
    have e1 := (vsc hu).1
    have e2 := (vsc hv).1
    subst e1; subst e2
    exact ⟨by simp [aggB, ht], run_equalIn_string w d _ _ _ ht⟩
  · split at hr <;> (try cases hr) <;> rename_i e <;> (try cases e)
    have e1 := (vsc hu).1
    have e2 := (vsc hv).1
    subst e1; subst e2
    exact ⟨by simp [aggB, ht], run_equalIn_bool' w d _ _ _ ht⟩
  · split at hr <;> (try cases hr) <;> rename_i e <;> (try cases e)
    split at hr <;> cases hr
    rename_i hk
    subst hk
    have e1 := (vsc hu).1
    have e2 := (vsc hv).1
    subst e1; subst e2
    exact ⟨by simp [aggB, ht], run_equalIn_int w d _ _ _ _ _ ht⟩
theorem eqArr_run {d sz k : Nat} {e : TypeId} {cs ds : List AV} {us vs : List Value} (hk : arrK P e = some k) (hu : Cs φ M w cs us []) (hv : Cs φ M w ds vs []) : ∀ {is : List Nat} {r : Bool}, eqOff (is.map fun j => (j * sz, k)) cs ds = some r → (Op.eqItems (d + 1) e sz us.toArray vs.toArray is).run P w = .ok r w
  | [], r, hr => by
    cases hr
    simp [Op.eqItems]
  | i :: is, r, hr => by
    simp only [List.map_cons] at hr
    unfold eqOff at hr
    split at hr <;> (try cases hr)
    rename_i a b ha hb
    split at hr <;> cases hr
    rename_i r1 q hr1 hq
    have hna : i * sz < us.length := by rw [hu.len]; exact (List.getElem?_eq_some_iff.1 ha).1
    have hnb : i * sz < vs.length := by rw [hv.len]; exact (List.getElem?_eq_some_iff.1 hb).1
    obtain ⟨u, hua⟩ : ∃ u, us[i * sz]? = some u := ⟨_, List.getElem?_eq_getElem hna⟩
    obtain ⟨v, hvb⟩ : ∃ v, vs[i * sz]? = some v := ⟨_, List.getElem?_eq_getElem hnb⟩
    obtain ⟨h1, h2⟩ := seqK_run (d := d) hk (hu.all _ a _ ha hua) (hv.all _ b _ hb hvb) hr1
    have p1 := run_part_one (P := P) (w := w) (t := e) (cs := us.toArray) (off := i * sz) h1 (by simpa using hua)
    have p2 := run_part_one (P := P) (w := w) (t := e) (cs := vs.toArray) (off := i * sz) h1 (by simpa using hvb)
    rw [Op.eqItems]
    simp only [Sem.run_bind, p1, p2, h2, Result.andThen_ok]
    cases r1
    · simp
    · simpa using eqArr_run hk hu hv hq
theorem q_aeq {op : BinOp} {t ty : TypeId} {x y : Operand} {x' y' : AX} {offs : List (Nat × Nat)} (neg : Bool) (hop : op = if neg then .neq else .eql) (ht : eqOffs P t = some offs) (ho : o.op = .binOp op t x y ty) (hx : cx x = some x') (hy : cx y = some y') (I : Inv E φ M L st a.tmps w) {z : AV}
    (hz : aval (.aeq neg offs x' y') st.ρ st.h = some z) : Does φ M a w P o z := by
  have h1 := I.ev hx
  have h2 := I.ev hy
  simp only [aval] at hz
  split at hz <;> (try cases hz)
  rename_i cs ds hcs hds
  rw [hcs] at h1
  rw [hds] at h2
  obtain ⟨r, hr, rfl⟩ := Option.map_eq_some_iff.1 hz
  obtain ⟨us, e1, c1⟩ := vagg h1
  obtain ⟨vs, e2, c2⟩ := vagg h2
  have hh : (Op.equal t (.agg us.toArray) (.agg vs.toArray)).run P w = .ok r w ∧ P.eqGuardType P.depth t = false := by
    unfold eqOffs at ht
    split at ht <;> (try cases ht)
    · rename_i fs hfs
      split at ht <;> (try cases ht)
      rename_i hh
      simp only [Bool.or_eq_true, not_or, Bool.not_eq_true] at hh
      have hf : P.fieldsOf t = fs := by simp [Program.fieldsOf, hfs]
      refine ⟨?_, hh.2⟩
      show (Op.equalIn (9998 + 1 + 1) t _ _).run P w = _
      rw [run_equalIn_struct (P := P) w _ t _ _ (by rw [hf]; exact hfs) hh.1, hf]
      exact eqOff_run c1 c2 ht hr
    · rename_i n e hfs
      split at ht <;> (try cases ht)
      rename_i hh
      obtain ⟨i, hi, ht⟩ := Option.bind_eq_some_iff.1 ht
      obtain ⟨k, hk, rfl⟩ := Option.map_eq_some_iff.1 ht
      refine ⟨?_, by simpa using hh⟩
      show (Op.equalIn (9998 + 1 + 1) t _ _).run P w = _
      rw [run_equalIn_array (P := P) w _ _ _ hfs hi]
      have hc : P.cellsOf e = i.size := by simp [Program.cellsOf, hi]
      rw [hc]
      exact eqArr_run hk c1 c2 hr
  obtain ⟨heq, hh⟩ := hh
  refine ⟨_, ?_, V.sc _ rfl⟩
  cases neg <;> simp only [if_true, if_false, Bool.false_eq_true] at hop <;> subst hop
  · have hg : (eqGuard .eql t x y (.agg us.toArray) (.agg vs.toArray)).run P w = .ok () w := by simp [eqGuard, hh]
    simp only [execOp, ho, e1, e2, Sem.run_bind, hg, Result.andThen_ok]
    simp [binOp, heq]
  · have hg : (eqGuard .neq t x y (.agg us.toArray) (.agg vs.toArray)).run P w = .ok () w := by simp [eqGuard, hh]
    simp only [execOp, ho, e1, e2, Sem.run_bind, hg, Result.andThen_ok]
    simp [binOp, heq]
theorem q_load {t : TypeId} {x : Operand} {x' : AX} {g : Bool} {n : Nat} (ho : o.op = .load t x) (hg : aggB P t = some g) (hn : szB P t = some n) (hx : cx x = some x') (I : Inv E φ M L st a.tmps w) {y : AV}
    (hy : aval (.load g n x') st.ρ st.h = some y) : Does φ M a w P o y := by
  have h1 := I.ev hx
  simp only [aval] at hy
  cases hl : deref st.h (x'.ev st.ρ) with
  | none => rw [hl] at hy; cases hy
  | some l =>
    rw [hl] at hy
    simp only [Option.bind_some] at hy
    obtain ⟨gg, oo, us, h2, h3, h4, h5, h6⟩ := deref_ok I h1 hl
    split at hy
    · rename_i hg'
      subst hg'
      split at hy <;> (try cases hy)
      rename_i hle
      refine ⟨_, ?_, V.aggOf (us := us.take n) (Cs.of_all (by simp [h3]) (fun u hu => h5 u (List.mem_of_mem_take hu)) ?_)⟩
      · simp [execOp, ho, Instr.loadAt, h2, Instr.sureAddr, loadVar, run_isAggB hg, run_sizeB hn, run_loadCells_of (w := w) (P := P) (n := n) (by omega : n ≤ us.length) h4]
      · intro j y u hy hj
        have hp := plainL_mem hle.2 y (List.mem_of_getElem? hy)
        rw [List.getElem?_take] at hy hj
        split at hy
        · rename_i hlt
          rw [if_pos hlt] at hj
          exact h6 j y u hy hj hp
        · cases hy
    · rename_i hg'
      have hg' : g = false := by simpa using hg'
      subst hg'
      cases l with
      | nil => simp at hy
      | cons y' l' =>
      simp only at hy
      split at hy <;> (try cases hy)
      rename_i hp
      cases us with
      | nil => simp at h3
      | cons u us =>
        refine ⟨u, ?_, h6 0 _ u rfl rfl hp⟩
        have := h4 0 u rfl
        rw [Nat.add_zero] at this
        simp [execOp, ho, Instr.loadAt, h2, Instr.sureAddr, loadVar, run_isAggB hg, this]
theorem q_nilc {x : Operand} {x' : AX} (ho : o.op = .nilCheck x) (hx : cx x = some x') (I : Inv E φ M L st a.tmps w) {y : AV} (hy : aval (.nilc x') st.ρ st.h = some y) : Does φ M a w P o y := by
  have h1 := I.ev hx
  simp only [aval] at hy
  split at hy <;> cases hy
  · rename_i hu
    rw [hu] at h1
    obtain ⟨l, hl, h2⟩ := vref h1
    exact ⟨a.eval x, by simp [execOp, ho, h2], h1⟩
  · rename_i hu
    rw [hu] at h1
    obtain ⟨g, oo, us, h2, _⟩ := vrp h1
    exact ⟨a.eval x, by simp [execOp, ho, h2], h1⟩
  · rename_i hu
    rw [hu] at h1
    obtain ⟨us, h2, _⟩ := vclo h1 rfl
    exact ⟨a.eval x, by simp [execOp, ho, h2], h1⟩
theorem mapM_cx {xs : List Operand} {cs : List AX} (h : xs.mapM cx = some cs) (I : Inv E φ M L st a.tmps w) :
    (xs.map a.eval).length = (cs.map (·.ev st.ρ)).length ∧ ∀ (j : Nat) (x : AV) (u : Value), (cs.map (·.ev st.ρ))[j]? = some x → (xs.map a.eval)[j]? = some u → V φ M w x u [] := by
  induction xs generalizing cs with
  | nil => simp at h; subst h; simp
  | cons x xs ih =>
    simp only [List.mapM_cons, Option.bind_eq_bind, Option.bind_eq_some_iff, Option.pure_def, Option.some.injEq] at h
    obtain ⟨c, hc, cs', hcs, rfl⟩ := h
    obtain ⟨h1, h2⟩ := ih hcs
    refine ⟨by simpa using h1, fun j y u hy hu => ?_⟩
    cases j with
    | zero => simp at hy hu; subst hy; subst hu; exact I.ev hc
    | succ j => simp only [List.map_cons, List.getElem?_cons_succ] at hy hu; exact h2 j y u hy hu
theorem q_mkf {f : FuncId} {first caps : Array Operand} {cs : List AX} (ho : o.op = .makeFunc (.func f) first caps) (hf : first.toList = []) (hc : caps.toList.mapM cx = some cs) (I : Inv E φ M L st a.tmps w) :
    Does φ M a w P o (.clo f (cs.map (·.ev st.ρ))) := by
  obtain rfl : first = #[] := by rw [← Array.toList_inj]; exact hf
  obtain ⟨h1, h2⟩ := mapM_cx hc I
  refine ⟨_, ?_, V.cloOf h1 h2⟩
  simp only [execOp, ho, Instr.makeFunc, Sem.run_bind, Sem.run_pure, Result.andThen_ok, Array.map_empty]
  rw [← Array.toList_map]
theorem natOf_ok {d : Nat} {lo : Option Operand} {lo' : Option AX} (hlo : cxo lo = some lo') (I : Inv E φ M L st a.tmps w) {l : Nat} (hl : natOf st.ρ d lo' = some l) :
    (lo = none ∧ l = d) ∨ ∃ y k, lo = some y ∧ a.eval y = .int k l := by
  cases lo with
  | none => simp [cxo] at hlo; subst hlo; simp [natOf] at hl; exact .inl ⟨rfl, hl.symm⟩
  | some y =>
    simp only [cxo, Option.map_eq_some_iff] at hlo
    obtain ⟨y', hy, rfl⟩ := hlo
    simp only [natOf] at hl
    have h1 := I.ev hy
    split at hl <;> (try cases hl)
    rename_i k n hu
    split at hl <;> (try cases hl)
    rename_i h0
    rw [hu] at h1
    obtain ⟨h1, _⟩ := vsc h1
    exact .inr ⟨y, k, rfl, by rw [h1, Int.toNat_of_nonneg h0]⟩
theorem natOf_map {d : Nat} {lo : Option Operand} {lo' : Option AX} (hlo : cxo lo = some lo') (I : Inv E φ M L st a.tmps w) {l : Nat} (hl : natOf st.ρ d lo' = some l) :
    (lo.map a.eval = none ∧ l = d) ∨ ∃ k, lo.map a.eval = some (Value.int k l) :=
  (natOf_ok hlo I hl).imp (fun e => ⟨by rw [e.1]; rfl, e.2⟩) fun ⟨y, k, e, e'⟩ => ⟨k, by rw [e, Option.map_some, e']⟩
theorem run_sliceBound {y : Value} {k : IntKind} {l m : Nat} {code : BoundsCode} (hy : y = .int k l) (h : l ≤ m) : (Instr.sliceBound y m code).run P w = .ok l w := by
  subst hy
  have : (l : Int) ≤ m := by omega
  simp [Instr.sliceBound, asIntOf, this]
theorem run_sliceBounds {b : Bool} {len cap l h : Nat} {lo hi : Option Value} (hlo : (lo = none ∧ l = 0) ∨ ∃ k, lo = some (.int k l)) (hhi : (hi = none ∧ h = len) ∨ ∃ k, hi = some (.int k h)) (h1 : l ≤ h) (h2 : h ≤ cap) :
    (Instr.sliceBounds b len cap lo hi none).run P w = .ok (l, h, cap) w := by
  unfold Instr.sliceBounds
  simp only [Sem.run_bind, Sem.run_pure, Result.andThen_ok]
  rcases hlo with ⟨rfl, rfl⟩ | ⟨k, rfl⟩ <;> rcases hhi with ⟨rfl, rfl⟩ | ⟨k', rfl⟩ <;>
    simp [run_sliceBound (P := P) (w := w) rfl h1, run_sliceBound (P := P) (w := w) rfl h2]
theorem q_subs {t : TypeId} {x : Operand} {x' : AX} {lo hi : Option Operand} {lo' hi' : Option AX} (ho : o.op = .slice t x lo hi none) (ht : P.underlying t = some .string) (hx : cx x = some x')
    (hlo : cxo lo = some lo') (hhi : cxo hi = some hi') (I : Inv E φ M L st a.tmps w) {y : AV}
    (hy : aval (.subs x' lo' hi') st.ρ st.h = some y) : Does φ M a w P o y := by
  have h1 := I.ev hx
  simp only [aval] at hy
  split at hy <;> (try cases hy)
  rename_i s hu
  rw [hu] at h1
  obtain ⟨h1, _⟩ := vsc h1
  split at hy <;> (try cases hy)
  rename_i l h hl hh
  split at hy <;> (try cases hy)
  rename_i hc
  have e1 := natOf_map hlo I hl
  have e2 := natOf_map hhi I hh
  refine ⟨_, ?_, V.sc _ rfl⟩
  have := run_sliceBounds (P := P) (w := w) (b := false) (len := s.size) (cap := s.size) (l := l) (h := h) (lo := lo.map a.eval) (hi := hi.map a.eval)
    e1 e2 hc.1 hc.2
  simp [execOp, ho, Instr.sliceAt, run_underB ht, h1, Instr.slice, this]
theorem run_sliceAt {t e : TypeId} {sz len c l h : Nat} {A : Option Addr} {lo hi : Option Value} (ht : P.underlying t = some (.slice e)) (hz : szB P e = some sz)
    (hlo : (lo = none ∧ l = 0) ∨ ∃ k, lo = some (.int k l)) (hhi : (hi = none ∧ h = len) ∨ ∃ k, hi = some (.int k h)) (h1 : l ≤ h) (h2 : h ≤ c) :
    (Instr.sliceAt t (.slice A len c) lo hi none).run P w = .ok (.slice (if c = l then A else A.map (·.add (l * sz))) (h - l) (c - l)) w := by
  have := run_sliceBounds (P := P) (w := w) (b := true) (len := len) (cap := c) (l := l) (h := h) (lo := lo) (hi := hi) hlo hhi h1 h2
  simp [Instr.sliceAt, run_underB ht, Instr.slice, this, run_sizeB hz]
theorem q_subl {t e : TypeId} {x : Operand} {x' : AX} {sz : Nat} {lo hi : Option Operand} {lo' hi' : Option AX} (ho : o.op = .slice t x lo hi none) (ht : P.underlying t = some (.slice e)) (hz : szB P e = some sz) (hx : cx x = some x')
    (hlo : cxo lo = some lo') (hhi : cxo hi = some hi') (I : Inv E φ M L st a.tmps w) {y : AV}
    (hy : aval (.subl sz x' lo' hi') st.ρ st.h = some y) : Does φ M a w P o y := by
  have h1 := I.ev hx
  simp only [aval] at hy
  split at hy
  · rename_i b off len sz' lim hu
    split at hy <;> (try cases hy)
    rename_i l h hl hh
    split at hy <;> (try cases hy)
    rename_i hc
    obtain ⟨rfl, h2, h3, rfl⟩ := hc
    rw [hu] at h1
    have e1 := natOf_map hlo I hl
    have e2 := natOf_map hhi I hh
    obtain ⟨_, ⟨rfl, A, h1⟩ | ⟨lc, c, hb, h1, h4, h5, h6⟩⟩ := vsl h1
    · obtain rfl : h = 0 := by omega
      obtain rfl : l = 0 := by omega
      refine ⟨_, ?_, .slz b _ sz false A⟩
      have := run_sliceAt (P := P) (w := w) (A := A) (c := 0) ht hz e1 e2 (by omega) (by omega)
      simp [execOp, ho, h1, this]
    · have := run_sliceAt (P := P) (w := w) (A := some ⟨lc.g, lc.o + off, none⟩) (c := c) ht hz e1 e2 h2 (by omega)
      refine ⟨_, by simp only [execOp, ho, h1, Option.map_none, Sem.run_bind, this]; rfl, ?_⟩
      by_cases hcl : c = l
      · obtain rfl : h = l := by omega
        rw [hcl]
        simp only [Nat.sub_self]
        exact .slz _ _ _ _ _
      · rw [if_neg hcl, Option.map_some, add_none, Nat.add_assoc]
        have e : (c - l) * sz + l * sz = c * sz := by rw [← Nat.add_mul]; congr 1; omega
        exact .sl b (off + l * sz) (h - l) sz false lc (c - l) hb (by omega) (by omega) (fun h => by cases h)
  · rename_i cs len hu
    split at hy <;> (try cases hy)
    rename_i l h hl hh
    split at hy <;> (try cases hy)
    rename_i hc
    rw [hu] at h1
    have e1 := natOf_map hlo I hl
    have e2 := natOf_map hhi I hh
    obtain ⟨A, c, us, h1, h4, hA, hcs, hm⟩ := vro h1
    have := run_sliceAt (P := P) (w := w) (A := A) (c := c) ht hz e1 e2 hc.1 (by omega)
    refine ⟨_, by simp only [execOp, ho, h1, Option.map_none, Sem.run_bind, this]; rfl, ?_⟩
    have hcs' := (hcs.drop (l * sz)).take ((h - l) * sz)
    refine .imm _ _ (.ro _ _ _ _ ((us.drop (l * sz)).take ((h - l) * sz)) (by omega) (fun hlt => ?_) hcs'.1 (fun j u hj => ?_) hcs'.2.1 hcs'.2.2)
    · obtain ⟨g, oo, rfl⟩ := hA (by omega)
      rw [if_neg (by omega), Option.map_some, add_none]
      exact ⟨_, _, rfl⟩
    · rw [List.getElem?_take] at hj
      split at hj <;> (try cases hj)
      rename_i hlt
      rw [List.getElem?_drop] at hj
      obtain ⟨g, oo, rfl, e3, e4⟩ := hm _ u hj
      have : 0 < h - l := by
        rcases Nat.eq_zero_or_pos (h - l) with e | e
        · rw [e] at hlt; omega
        · exact e
      rw [if_neg (by omega), Option.map_some, add_none]
      exact ⟨_, _, rfl, e3, by rw [Nat.add_assoc]; exact e4⟩
  · rename_i hu
    split at hy <;> (try cases hy)
    rename_i hl hh
    rw [hu] at h1
    have e1 := natOf_map hlo I hl
    have e2 := natOf_map hhi I hh
    obtain ⟨A, h1⟩ := vem h1
    have := run_sliceAt (P := P) (w := w) (A := A) (c := 0) (len := 0) ht hz e1 e2 (by omega) (by omega)
    exact ⟨_, by simp only [execOp, ho, h1, Option.map_none, Sem.run_bind, this]; rfl, V.em _⟩
  · rename_i b off len cap sz' hu
    split at hy <;> (try cases hy)
    rename_i l h hl hh
    split at hy <;> (try cases hy)
    rename_i hc
    obtain ⟨rfl, h2, h3⟩ := hc
    rw [hu] at h1
    have e1 := natOf_map hlo I hl
    have e2 := natOf_map hhi I hh
    obtain ⟨_, ⟨rfl, rfl, A, h1⟩ | ⟨lc, hb, h1, h4, h5⟩⟩ := vpf h1
    · obtain rfl : h = 0 := by omega
      obtain rfl : l = 0 := by omega
      refine ⟨_, ?_, .pfz b _ sz A⟩
      have := run_sliceAt (P := P) (w := w) (A := A) (c := 0) ht hz e1 e2 (by omega) (by omega)
      simp [execOp, ho, h1, this]
    · have := run_sliceAt (P := P) (w := w) (A := some ⟨lc.g, lc.o + off, none⟩) (c := cap) ht hz e1 e2 h2 h3
      refine ⟨_, by simp only [execOp, ho, h1, Option.map_none, Sem.run_bind, this]; rfl, ?_⟩
      by_cases hcl : cap = l
      · obtain rfl : h = l := by omega
        rw [hcl]
        simp only [Nat.sub_self]
        exact .pfz _ _ _ _
      · rw [if_neg hcl, Option.map_some, add_none, Nat.add_assoc]
        have e : (cap - l) * sz + l * sz = cap * sz := by rw [← Nat.add_mul]; congr 1; omega
        exact .pf b (off + l * sz) (h - l) (cap - l) sz lc hb (by omega) (by omega)
  · cases hy
theorem run_sliceBounds3 {b : Bool} {len cap l h m : Nat} {lo : Option Value} {hi mx : Value} (hlo : (lo = none ∧ l = 0) ∨ ∃ k, lo = some (.int k l)) (hhi : ∃ k, hi = .int k h) (hmx : ∃ k, mx = .int k m) (h1 : l ≤ h) (h2 : h ≤ m) (h3 : m ≤ cap) :
    (Instr.sliceBounds b len cap lo (some hi) (some mx)).run P w = .ok (l, h, m) w := by
  unfold Instr.sliceBounds
  simp only [Sem.run_bind]
  obtain ⟨k', rfl⟩ := hhi
  obtain ⟨k'', rfl⟩ := hmx
  rcases hlo with ⟨rfl, rfl⟩ | ⟨k, rfl⟩ <;>
    simp [run_sliceBound (P := P) (w := w) rfl h1, run_sliceBound (P := P) (w := w) rfl h2, run_sliceBound (P := P) (w := w) rfl h3]
theorem run_sliceAt3 {t e : TypeId} {sz len c l h m : Nat} {A : Option Addr} {lo : Option Value} {hi mx : Value} (ht : P.underlying t = some (.slice e)) (hz : szB P e = some sz)
    (hlo : (lo = none ∧ l = 0) ∨ ∃ k, lo = some (.int k l)) (hhi : ∃ k, hi = .int k h) (hmx : ∃ k, mx = .int k m) (h1 : l ≤ h) (h2 : h ≤ m) (h3 : m ≤ c) :
    (Instr.sliceAt t (.slice A len c) lo (some hi) (some mx)).run P w = .ok (.slice (if m = l then A else A.map (·.add (l * sz))) (h - l) (m - l)) w := by
  have := run_sliceBounds3 (P := P) (w := w) (b := true) (len := len) (cap := c) hlo hhi hmx h1 h2 h3
  simp [Instr.sliceAt, run_underB ht, Instr.slice, this, run_sizeB hz]
theorem natOf_some {d : Nat} {x : Operand} {x' : AX} (hx : cx x = some x') (I : Inv E φ M L st a.tmps w) {l : Nat} (hl : natOf st.ρ d (some x') = some l) : ∃ k, a.eval x = Value.int k l := by
  rcases natOf_map (lo := some x) (lo' := some x') (by simp [cxo, hx]) I hl with ⟨e, _⟩ | ⟨k, e⟩
  · cases e
  · exact ⟨k, by simpa using e⟩
theorem q_sub3 {t e : TypeId} {x hi mx : Operand} {x' hi' mx' : AX} {sz : Nat} {lo : Option Operand} {lo' : Option AX} (ho : o.op = .slice t x lo (some hi) (some mx)) (ht : P.underlying t = some (.slice e)) (hz : szB P e = some sz) (hx : cx x = some x')
    (hlo : cxo lo = some lo') (hhi : cx hi = some hi') (hmx : cx mx = some mx') (I : Inv E φ M L st a.tmps w) {y : AV}
    (hy : aval (.sub3 sz x' lo' (some hi') mx') st.ρ st.h = some y) : Does φ M a w P o y := by
  have h1 := I.ev hx
  simp only [aval] at hy
  split at hy
  · rename_i b off len sz' lim hu
    split at hy <;> (try cases hy)
    rename_i l h m hl hh hm
    split at hy <;> (try cases hy)
    rename_i hc
    obtain ⟨rfl, h2, h3, h4⟩ := hc
    rw [hu] at h1
    have e1 := natOf_map hlo I hl
    have e2 := natOf_some hhi I hh
    have e3 := natOf_some hmx I hm
    obtain ⟨_, ⟨rfl, A, h1⟩ | ⟨lc, c, hb', h1, k4, k5, k6⟩⟩ := vsl h1
    · obtain rfl : m = 0 := by omega
      obtain rfl : h = 0 := by omega
      obtain rfl : l = 0 := by omega
      refine ⟨_, ?_, .slz b _ sz false A⟩
      have := run_sliceAt3 (P := P) (w := w) (A := A) (len := 0) (c := 0) ht hz e1 e2 e3 (by omega) (by omega) (by omega)
      simp [execOp, ho, h1, this]
    · have := run_sliceAt3 (P := P) (w := w) (A := some ⟨lc.g, lc.o + off, none⟩) (len := len) (c := c) ht hz e1 e2 e3 h2 h3 (by omega)
      refine ⟨_, by simp only [execOp, ho, h1, Option.map_some, Sem.run_bind, this]; rfl, ?_⟩
      have hmb : m * sz ≤ c * sz := Nat.mul_le_mul_right _ (by omega)
      by_cases hcl : m = l
      · obtain rfl : h = l := by omega
        rw [hcl]
        simp only [Nat.sub_self]
        exact .slz _ _ _ _ _
      · rw [if_neg hcl, add_none, Nat.add_assoc]
        have e : (m - l) * sz + l * sz = m * sz := by rw [← Nat.add_mul]; congr 1; omega
        exact .sl b (off + l * sz) (h - l) sz false lc (m - l) hb' (by omega) (by omega) (fun h => by cases h)
  · rename_i hu
    split at hy <;> (try cases hy)
    rename_i hl hh hm
    rw [hu] at h1
    have e1 := natOf_map hlo I hl
    have e2 := natOf_some hhi I hh
    have e3 := natOf_some hmx I hm
    obtain ⟨A, h1⟩ := vem h1
    have := run_sliceAt3 (P := P) (w := w) (A := A) (c := 0) (len := 0) ht hz e1 e2 e3 (by omega) (by omega) (by omega)
    exact ⟨_, by simp only [execOp, ho, h1, Option.map_some, Sem.run_bind, this]; rfl, V.em _⟩
  · cases hy
theorem q_cap {args : Array Operand} {ts : Array TypeId} {t e : TypeId} {x : Operand} {x' : AX} (ho : o.op = .call { callee := .builtin .cap, args := args, argTypes := ts }) (ha : args.toList = [x]) (hts : ts[0]? = some t) (ht : P.underlying t = some (.slice e)) (hx : cx x = some x')
    (I : Inv E φ M L st a.tmps w) {b off n cap sz : Nat} (hu : x'.ev st.ρ = .pf b off n cap sz) : Does φ M a w P o (.sc (.int .i64 cap)) := by
  obtain rfl : args = #[x] := by rw [← Array.toList_inj]; exact ha
  have h1 := I.ev hx
  rw [hu] at h1
  obtain ⟨A, h2⟩ := vpflen h1
  refine ⟨_, ?_, V.sc _ rfl⟩
  simp [execOp, ho, resolve, invoke, builtin, Builtin.cap_, hts, h2, run_underB ht, goInt]
theorem q_max {args : Array Operand} {ts : Array TypeId} {x y : Operand} {x' y' : AX} (ho : o.op = .call { callee := .builtin .max, args := args, argTypes := ts }) (ha : args.toList = [x, y]) (hx : cx x = some x') (hy : cx y = some y')
    (I : Inv E φ M L st a.tmps w) {k k' : IntKind} {m n : Int} (hu : x'.ev st.ρ = .sc (.int k m)) (hv : y'.ev st.ρ = .sc (.int k' n)) : Does φ M a w P o (.sc (.int k (if m < n then n else m))) := by
  obtain rfl : args = #[x, y] := by rw [← Array.toList_inj]; exact ha
  have h1 := I.ev hx
  rw [hu] at h1
  obtain ⟨h1, _⟩ := vsc h1
  have h2 := I.ev hy
  rw [hv] at h2
  obtain ⟨h2, _⟩ := vsc h2
  refine ⟨_, ?_, V.sc _ rfl⟩
  simp [execOp, ho, resolve, invoke, builtin, Builtin.max_, Builtin.max2, h1, h2]
theorem q_min {args : Array Operand} {ts : Array TypeId} {x y : Operand} {x' y' : AX} (ho : o.op = .call { callee := .builtin .min, args := args, argTypes := ts }) (ha : args.toList = [x, y]) (hx : cx x = some x') (hy : cx y = some y')
    (I : Inv E φ M L st a.tmps w) {k k' : IntKind} {m n : Int} (hu : x'.ev st.ρ = .sc (.int k m)) (hv : y'.ev st.ρ = .sc (.int k' n)) : Does φ M a w P o (.sc (.int k (if n < m then n else m))) := by
  obtain rfl : args = #[x, y] := by rw [← Array.toList_inj]; exact ha
  have h1 := I.ev hx
  rw [hu] at h1
  obtain ⟨h1, _⟩ := vsc h1
  have h2 := I.ev hy
  rw [hv] at h2
  obtain ⟨h2, _⟩ := vsc h2
  refine ⟨_, ?_, V.sc _ rfl⟩
  simp [execOp, ho, resolve, invoke, builtin, Builtin.min_, Builtin.min2, h1, h2]
theorem aval_ok {q : QOp} (hq : qop P o = some q) (I : Inv E φ M L st a.tmps w) {y : AV} (hy : aval q st.ρ st.h = some y) : Does φ M a w P o y := by
  unfold qop at hq
  split at hq
  · rename_i x ho
    obtain ⟨x', hx, rfl⟩ := Option.map_eq_some_iff.1 hq
    simp only [aval, Option.some.injEq] at hy
    exact hy ▸ q_mov (.inl ho) hx I
  · rename_i x ho
    obtain ⟨x', hx, rfl⟩ := Option.map_eq_some_iff.1 hq
    simp only [aval, Option.some.injEq] at hy
    exact hy ▸ q_mov (.inr ho) hx I
  · rename_i c x y ho
    simp only [Option.bind_eq_some_iff, Option.map_eq_some_iff] at hq
    obtain ⟨c', hc, x', hx, y', hy', rfl⟩ := hq
    simp only [aval] at hy
    split at hy <;> cases hy
    rename_i ht
    exact q_pick ho hc hx hy' I ht
  · rename_i op t x y ty ho
    simp only [Option.bind_eq_some_iff] at hq
    obtain ⟨x', hx, y', hy', hq⟩ := hq
    split at hq
    · rename_i ht
      cases hq
      simp only [aval] at hy
      split at hy <;> cases hy
      rename_i hu hv
      exact q_beq false rfl ht ho hx hy' I hu hv
    · rename_i ht
      cases hq
      simp only [aval] at hy
      split at hy <;> cases hy
      rename_i hu hv
      exact q_beq true rfl ht ho hx hy' I hu hv
    · obtain ⟨offs, hoffs, rfl⟩ := Option.map_eq_some_iff.1 hq
      exact q_aeq false rfl hoffs ho hx hy' I hy
    · obtain ⟨offs, hoffs, rfl⟩ := Option.map_eq_some_iff.1 hq
      exact q_aeq true rfl hoffs ho hx hy' I hy
    · obtain ⟨offs, hoffs, rfl⟩ := Option.map_eq_some_iff.1 hq
      exact q_aeq false rfl hoffs ho hx hy' I hy
    · obtain ⟨offs, hoffs, rfl⟩ := Option.map_eq_some_iff.1 hq
      exact q_aeq true rfl hoffs ho hx hy' I hy
    · cases hq
      simp only [aval] at hy
      split at hy <;> (try cases hy)
      rename_i u v hu hv
      obtain ⟨r, hr, rfl⟩ := Option.map_eq_some_iff.1 hy
      exact q_bin ho hx hy' I hu hv hr
  · rename_i t x ho
    obtain ⟨x', hx, rfl⟩ := Option.map_eq_some_iff.1 hq
    simp only [aval] at hy
    split at hy <;> cases hy
    rename_i hu
    exact q_not ho hx I hu
  · rename_i s t x ho
    simp only [Option.bind_eq_some_iff] at hq
    obtain ⟨x', hx, hq⟩ := hq
    split at hq
    · cases hq
      rename_i hs ht
      simp only [aval] at hy
      split at hy <;> cases hy
      rename_i hu
      exact q_cvi ho hs ht hx I hu
    · rename_i e hs ht
      split at hq <;> cases hq
      rename_i he
      exact q_bstr ho hs he ht hx I hy
    · cases hq
  · rename_i args ts ho
    split at hq <;> (try cases hq)
    rename_i x t ha ht
    simp only [Option.bind_eq_some_iff] at hq
    obtain ⟨x', hx, hq⟩ := hq
    split at hq <;> cases hq
    · rename_i hu
      simp only [aval] at hy
      split at hy <;> cases hy
      rename_i h
      exact q_len ho ha ht hx I (.inl ⟨_, h, rfl, hu⟩)
    · rename_i hu
      simp only [aval] at hy
      split at hy <;> cases hy
      · rename_i h
        exact q_len ho ha ht hx I (.inr ⟨⟨_, hu⟩, .inl ⟨_, _, _, _, h⟩⟩)
      · rename_i h
        exact q_len ho ha ht hx I (.inr ⟨⟨_, hu⟩, .inr (.inl ⟨_, h⟩)⟩)
      · rename_i h
        exact q_len (n := 0) ho ha ht hx I (.inr ⟨⟨_, hu⟩, .inr (.inr (.inl ⟨h, rfl⟩))⟩)
      · rename_i h
        exact q_len ho ha ht hx I (.inr ⟨⟨_, hu⟩, .inr (.inr (.inr ⟨_, _, _, _, h⟩))⟩)
  · rename_i x i ho
    obtain ⟨x', hx, rfl⟩ := Option.map_eq_some_iff.1 hq
    simp only [aval] at hy
    split at hy <;> (try cases hy)
    rename_i h
    exact q_ext ho hx I h hy
  · rename_i t x f ho
    simp only [Option.bind_eq_some_iff] at hq
    obtain ⟨x', hx, hq⟩ := hq
    split at hq <;> (try cases hq)
    rename_i fs hs
    split at hq <;> (try cases hq)
    rename_i f hf
    split at hq <;> (try cases hq)
    rename_i n hn
    exact q_fadr ho hs hf hn hx I hy
  · rename_i t x i ho
    simp only [Option.bind_eq_some_iff] at hq
    obtain ⟨x', hx, i', hi, hq⟩ := hq
    split at hq <;> (try cases hq)
    · rename_i e ht
      obtain ⟨sz, hz, rfl⟩ := Option.map_eq_some_iff.1 hq
      exact q_iadr ho ht hz hx hi I hy
    · rename_i n e ht
      obtain ⟨sz, hz, rfl⟩ := Option.map_eq_some_iff.1 hq
      exact q_radr ho ht hz hx hi I hy
  · rename_i t x f ho
    simp only [Option.bind_eq_some_iff] at hq
    obtain ⟨x', hx, hq⟩ := hq
    split at hq <;> (try cases hq)
    rename_i fs hs
    split at hq <;> (try cases hq)
    rename_i f hf
    simp only [Option.bind_eq_some_iff, Option.map_eq_some_iff] at hq
    obtain ⟨g, hg, n, hn, rfl⟩ := hq
    exact q_fld ho hs hf hg hn hx I hy
  · rename_i t x i ho
    simp only [Option.bind_eq_some_iff] at hq
    obtain ⟨x', hx, i', hi, hq⟩ := hq
    split at hq
    · cases hq
      rename_i ht
      exact q_idx ho ht hx hi I hy
    · rename_i n e ht
      simp only [Option.bind_eq_some_iff, Option.map_eq_some_iff] at hq
      obtain ⟨g, hg, sz, hz, rfl⟩ := hq
      exact q_aidx ho ht hg hz hx hi I hy
    · cases hq
  · rename_i t x ho
    simp only [Option.bind_eq_some_iff, Option.map_eq_some_iff] at hq
    obtain ⟨x', hx, g, hg, n, hn, rfl⟩ := hq
    exact q_load ho hg hn hx I hy
  · rename_i x ho
    obtain ⟨x', hx, rfl⟩ := Option.map_eq_some_iff.1 hq
    exact q_nilc ho hx I hy
  · rename_i args ts ho
    split at hq <;> (try cases hq)
    rename_i x t ha ht
    simp only [Option.bind_eq_some_iff] at hq
    obtain ⟨x', hx, hq⟩ := hq
    split at hq <;> cases hq
    rename_i hu
    simp only [aval] at hy
    split at hy <;> cases hy
    rename_i h
    exact q_cap ho ha ht hu hx I h
  · rename_i args ts ho
    split at hq <;> (try cases hq)
    rename_i x y ha
    simp only [Option.bind_eq_some_iff, Option.map_eq_some_iff] at hq
    obtain ⟨x', hx, y', hy', rfl⟩ := hq
    simp only [aval] at hy
    split at hy <;> cases hy
    rename_i h1 h2
    exact q_max ho ha hx hy' I h1 h2
  · rename_i args ts ho
    split at hq <;> (try cases hq)
    rename_i x y ha
    simp only [Option.bind_eq_some_iff, Option.map_eq_some_iff] at hq
    obtain ⟨x', hx, y', hy', rfl⟩ := hq
    simp only [aval] at hy
    split at hy <;> cases hy
    rename_i h1 h2
    exact q_min ho ha hx hy' I h1 h2
  · rename_i t x lo hi mx ho
    simp only [Option.bind_eq_some_iff] at hq
    obtain ⟨x', hx, hi', hhi, mx', hmx, hq⟩ := hq
    split at hq <;> (try cases hq)
    rename_i lo' hlo
    split at hq <;> (try cases hq)
    rename_i e ht
    obtain ⟨sz, hz, rfl⟩ := Option.map_eq_some_iff.1 hq
    exact q_sub3 ho ht hz hx hlo hhi hmx I hy
  · rename_i t x lo hi ho
    simp only [Option.bind_eq_some_iff] at hq
    obtain ⟨x', hx, hq⟩ := hq
    split at hq <;> (try cases hq)
    rename_i lo' hi' hlo hhi
    split at hq <;> (try cases hq)
    · rename_i ht
      exact q_subs ho ht hx hlo hhi I hy
    · rename_i e ht
      obtain ⟨sz, hz, rfl⟩ := Option.map_eq_some_iff.1 hq
      exact q_subl ho ht hz hx hlo hhi I hy
  · rename_i f first caps ho
    split at hq <;> (try cases hq)
    rename_i hf
    obtain ⟨cs, hc, rfl⟩ := Option.map_eq_some_iff.1 hq
    simp only [aval, Option.some.injEq] at hy
    exact hy ▸ q_mkf ho hf hc I
  · cases hq
end
end Go.Proofs.YtiejaibmcmicoaaGreatDoor.Am
