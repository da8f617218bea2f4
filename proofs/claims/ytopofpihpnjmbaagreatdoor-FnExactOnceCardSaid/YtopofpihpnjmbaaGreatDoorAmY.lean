/- Types of values; functions alike from type to type, each kind once; no condition. -/
import Derived.Test.YtopofpihpnjmbaaGreatDoorAmX
import Derived.Test.YtopofpihpnjmbaaGreatDoorAmU
import Derived.Test.YtopofpihpnjmbaaGreatDoorAmT
namespace Go.Proofs.YtopofpihpnjmbaaGreatDoor.Am
open Go
set_option linter.unusedSimpArgs false
set_option linter.unusedVariables false
attribute [local congr] ZL yp Zm
attribute [local simp] YI yI ZI YH ZA Zv zI yz Yh zl zA Zi Zl Yz zJ zB YA yA YX yX ZY zY ZB Yv yK YK aval dOk za ev_t ev_c Zt zv yT Yy isIo hasIo sbin endR fin resL one outL out1 clo1 cloL coe coeL shut shut.shutL wantA weff cellsOf fillA deref natOf ρ0_app ZX plain plain.plainL ye Ze zj Yp Ym ZJ zw zk yi yJ Zp Yl
def OwnC (c : AV) : Prop := (∃ cs len sz, c = .own cs len sz ∧ cs.length = len * sz ∧ Yb.idfreeL cs = true ∧ flt.fltL cs = true) ∨ ∃ v, c = .sc v
def wtL {α : Type} (wt : α → Nat) : List α → Nat
  | [] => 0
  | x :: xs => wt x + wtL wt xs
structure Ty (α : Type) where
  n : Nat
  cs : α → List AV
  oc : α → List AV
  z : List AV
  bytes : Nat
  ok : α → Prop
  wt : α → Nat
  d : Nat
  shape : Sh
  csn : ∀ x, (cs x).length = n
  ocn : ∀ x, (oc x).length = n
  zn : z.length = n
  sh : ∀ x, ∀ c ∈ cs x, shut c = true
  ow : ∀ x, ∀ c ∈ oc x, OwnC c
  zi : ∀ c ∈ z, Yb c = true
  rc : ∀ h k x, d ≤ k → (oc x).mapM (roc h k) = some (cs x)
  is : ∀ l, Is shape l → ∃ x, l = cs x ∧ ok x
theorem OwnC.fr {c : AV} (h : OwnC c) : Yb c = true := by
  rcases h with ⟨cs, len, sz, rfl, _, h, _⟩ | ⟨v, rfl⟩
  · exact h
  · rfl
theorem OwnC.fl {c : AV} (h : OwnC c) : flt c = true := by
  rcases h with ⟨cs, len, sz, rfl, _, _, h⟩ | ⟨v, rfl⟩
  · exact h
  · rfl
mutual
theorem zah : ∀ {c : AV}, shut c = true → plain c = true
  | .agg cs, h => yL cs h
  | .tup cs, h => yL cs h
  | .clo _ cs, h => yL cs h
  | .un, _ => rfl
  | .sc _, _ => rfl
  | .em, _ => rfl
  | .ro .., _ => rfl
  | .rp .., _ => rfl
  | .ref .., _ => rfl
  | .sl .., _ => rfl
  | .pf .., _ => rfl
  | .own .., h => h
  | .io .., h => h
  | .bx .., h => h
theorem yL : ∀ (l : List AV), shut.shutL l = true → plain.plainL l = true
  | [], _ => rfl
  | x :: l, h => by
    simp only [shut.shutL, Bool.and_eq_true] at h
    simp only [plain.plainL, Bool.and_eq_true]
    exact ⟨zah h.1, yL l h.2⟩
end
theorem Y4 {l : List AV} (h : ∀ c ∈ l, shut c = true) : plain.plainL l = true := zcc fun c hc => zah (h c hc)
theorem Zy {h : Hp} {k : Nat} {x : AV} (hs : shut x = true) : roc h k x = some x := by cases k <;> simp only [roc, if_pos hs]
theorem ya {h : Hp} {k : Nat} {v : Value} : roc h k (.sc v) = some (.sc v) := Zy rfl
theorem zd {h : Hp} {k : Nat} {cs : List AV} {n : Nat} : roc h k (.ro cs n) = some (.ro cs n) := Zy rfl
theorem Zr {h : Hp} {k : Nat} : roc h k .em = some .em := Zy rfl
theorem yd {h : Hp} {k : Nat} {cs : List AV} (hs : shut.shutL cs = true) : roc h k (.agg cs) = some (.agg cs) := Zy hs
section
variable {α : Type} (t : Ty α)
theorem Ty.shL (x : α) : shut.shutL (t.cs x) = true := YQ (t.sh x)
theorem Ty.plL (x : α) : plain.plainL (t.cs x) = true := Y4 (t.sh x)
theorem Ty.tk (x : α) (l : List AV) : (t.cs x ++ l).take t.n = t.cs x := by rw [← t.csn x]; simp
theorem Ty.flo (xs : List α) : flt (.own (rows t.oc xs) xs.length t.n) = true := by
  have := zab (f := t.oc) (fun x c hc => (t.ow x c hc).fl) xs
  simpa [flt] using this
theorem Ty.flL (x : α) : flt.fltL (t.oc x) = true := by
  have h := t.ow x
  generalize t.oc x = l at h
  induction l with
  | nil => rfl
  | cons c l ih => simp only [flt.fltL, Bool.and_eq_true]; exact ⟨(h c (by simp)).fl, ih fun c hc => h c (by simp [hc])⟩
theorem Ty.frL (xs : List α) : Yb.idfreeL (rows t.oc xs) = true := Zd (fun x c hc => (t.ow x c hc).fr) xs
theorem Ty.rcs (h : Hp) {k : Nat} (hk : t.d ≤ k) (xs : List α) : (rows t.oc xs).mapM (roc h k) = some (rows t.cs xs) := by
  induction xs with
  | nil => rfl
  | cons x xs ih => rw [Zc, Zc, List.mapM_append, t.rc h k x hk, ih]; rfl
theorem Ty.roc {h : Hp} {b k : Nat} {xs : List α} {lim : Bool} (hd : t.d ≤ k) (hb : h b = some (some (rows t.oc xs))) : Am.roc h (k + 1) (.sl b 0 xs.length t.n lim) = some (.ro (rows t.cs xs) xs.length) := by
  unfold Am.roc
  rw [if_neg (by simp)]
  simp only [hb]
  have hl : 0 + xs.length * t.n ≤ (rows t.oc xs).length := by rw [zb t.ocn]; omega
  rw [if_pos hl]
  have ht : (List.drop 0 (rows t.oc xs)).take (xs.length * t.n) = rows t.oc xs := by rw [List.drop_zero, List.take_of_length_le (by rw [zb t.ocn]; exact Nat.le_refl _)]
  rw [ht]
  have hm := t.rcs h hd xs
  split
  · rename_i hs
    -- all shut: read as it is
    have : ∀ (l ys : List AV), shut.shutL l = true → l.mapM (Am.roc h k) = some ys → ys = l := by
      intro l
      induction l with
      | nil => intro ys _ e; simp at e; exact e
      | cons c l ih =>
        intro ys hs e
        simp only [shut.shutL, Bool.and_eq_true] at hs
        simp only [List.mapM_cons, Option.bind_eq_bind, Option.bind_eq_some_iff, Option.pure_def, Option.some.injEq] at e
        obtain ⟨y, hy, ys', hys, rfl⟩ := e
        have : y = c := by cases k <;> simp only [Am.roc, if_pos hs.1, Option.some.injEq] at hy <;> exact hy.symm
        rw [this, ih ys' hs.2 hys]
    rw [this _ _ hs hm]
  · rw [hm]; rfl
end
def Ty.str : Ty ByteArray where
  n := 1
  cs s := [.sc (.string s)]
  oc s := [.sc (.string s)]
  z := [.sc (.string ⟨#[]⟩)]
  bytes := 16
  ok s := s.size ≤ 140737488351232
  wt s := s.size
  d := 0
  shape := .str
  csn _ := rfl
  ocn _ := rfl
  zn := rfl
  sh := by simp
  ow x c h := by simp at h; subst h; exact .inr ⟨_, rfl⟩
  zi := by simp [Yb]
  rc h k x _ := by simp [ya]
  is l h := by obtain ⟨s, h1, rfl⟩ := h; exact ⟨s, rfl, h1⟩
def Ty.int : Ty Int where
  n := 1
  cs n := [.sc (.int .i64 n)]
  oc n := [.sc (.int .i64 n)]
  z := [.sc (.int .i64 0)]
  bytes := 8
  ok n := -9223372036854775808 ≤ n ∧ n ≤ 9223372036854775807
  wt _ := 0
  d := 0
  shape := .int .i64
  csn _ := rfl
  ocn _ := rfl
  zn := rfl
  sh := by simp
  ow x c h := by simp at h; subst h; exact .inr ⟨_, rfl⟩
  zi := by simp [Yb]
  rc h k x _ := by simp [ya]
  is l h := by
    obtain ⟨n, h1, rfl⟩ := h
    refine ⟨n, rfl, ?_⟩
    simp [Lit.wf, IntKind.min, IntKind.max, IntKind.signed, IntKind.bits] at h1
    omega
def Ty.byte : Ty Int where
  n := 1
  cs n := B n
  oc n := B n
  z := [.sc (.int .u8 0)]
  bytes := 1
  ok n := 0 ≤ n ∧ n ≤ 255
  wt _ := 0
  d := 0
  shape := .int .u8
  csn _ := rfl
  ocn _ := rfl
  zn := rfl
  sh := by simp [B]
  ow x c h := by simp [B] at h; subst h; exact .inr ⟨_, rfl⟩
  zi := by simp [Yb]
  rc h k x _ := by simp [B, ya]
  is l h := by
    obtain ⟨n, h1, rfl⟩ := h
    refine ⟨n, rfl, ?_⟩
    simp [Lit.wf, IntKind.min, IntKind.max, IntKind.signed, IntKind.bits] at h1
    omega
def Ty.bool : Ty Bool where
  n := 1
  cs b := [.sc (.bool b)]
  oc b := [.sc (.bool b)]
  z := [.sc (.bool false)]
  bytes := 1
  ok _ := True
  wt _ := 0
  d := 0
  shape := .bool
  csn _ := rfl
  ocn _ := rfl
  zn := rfl
  sh := by simp
  ow x c h := by simp at h; subst h; exact .inr ⟨_, rfl⟩
  zi := by simp [Yb]
  rc h k x _ := by simp [ya]
  is l h := by obtain ⟨b, rfl⟩ := h; exact ⟨b, rfl, trivial⟩
theorem Ty.rowsIs {α : Type} (t : Ty α) : ∀ rs : List (List AV), (∀ r ∈ rs, Is t.shape r) → ∃ xs : List α, rs = xs.map t.cs ∧ ∀ x ∈ xs, t.ok x
  | [], _ => ⟨[], rfl, by simp⟩
  | r :: rs, h => by
    obtain ⟨xs, rfl, h1⟩ := t.rowsIs rs fun r hr => h r (by simp [hr])
    obtain ⟨x, rfl, h2⟩ := t.is r (h r (by simp))
    exact ⟨x :: xs, rfl, fun y hy => (List.mem_cons.1 hy).elim (fun e => e ▸ h2) (h1 y)⟩
def Ty.slice {α : Type} (t : Ty α) : Ty (List α) where
  n := 1
  cs l := [.ro (rows t.cs l) l.length]
  oc l := [.own (rows t.oc l) l.length t.n]
  z := [.em]
  bytes := 24
  ok l := l.length * t.bytes ≤ 140737488351232 ∧ ∀ x ∈ l, t.ok x
  wt l := l.length + wtL t.wt l
  d := t.d + 1
  shape := .slice t.bytes t.n t.shape
  csn _ := rfl
  ocn _ := rfl
  zn := rfl
  sh := by simp
  ow l c h := by
    simp at h
    subst h
    exact .inl ⟨_, _, _, rfl, zb t.ocn l, Zd (fun x c hc => (t.ow x c hc).fr) l, by have := t.flo l; simpa [flt] using this⟩
  zi := by simp [Yb]
  rc h k l hk := by
    obtain ⟨k, rfl⟩ : ∃ k', k = k' + 1 := ⟨k - 1, by omega⟩
    have e : Am.roc h (k + 1) (.own (rows t.oc l) l.length t.n) = ((rows t.oc l).mapM (Am.roc h k)).map fun ys => .ro ys l.length := rfl
    rw [List.mapM_cons, e, t.rcs h (by omega)]
    rfl
  is l h := by
    obtain ⟨rs, rfl, hb, h⟩ := h
    obtain ⟨xs, rfl, hx⟩ := t.rowsIs rs h
    refine ⟨xs, by simp [rows], ?_, hx⟩
    have : reachBytes = 140737488351232 := rfl
    rw [this] at hb
    simpa using hb
theorem Ty.lenb {α : Type} (t : Ty α) (hby : 0 < t.bytes) {xs : List α} (h : t.slice.ok xs) : xs.length < 4611686018427387904 := by
  have := Nat.le_trans (Nat.le_mul_of_pos_right xs.length hby) h.1
  omega
theorem ze2 {α : Type} {wt : α → Nat} (h : ∀ x, wt x = 0) (xs : List α) : wtL wt xs = 0 := by
  induction xs with
  | nil => rfl
  | cons x xs ih => simp only [wtL, h, ih]
theorem zbW (xs : List Int) : (rows Ty.byte.oc xs).length = xs.length := by rw [zb Ty.byte.ocn]; exact Nat.mul_one _
theorem zQ (xs : List ByteArray) : (rows Ty.str.oc xs).length = xs.length := by rw [zb Ty.str.ocn]; exact Nat.mul_one _
theorem zd2 (xs : List ByteArray) : (rows Ty.str.cs xs).length = xs.length := by rw [zb Ty.str.csn]; exact Nat.mul_one _
def Ty.nil : Ty Unit where
  n := 0
  cs _ := []
  oc _ := []
  z := []
  bytes := 0
  ok _ := True
  wt _ := 0
  d := 0
  shape := .nil
  csn _ := rfl
  ocn _ := rfl
  zn := rfl
  sh := by simp
  ow := by simp
  zi := by simp
  rc h k x _ := rfl
  is l h := ⟨(), h, trivial⟩
def Ty.cons {α β : Type} (t : Ty α) (r : Ty β) : Ty (α × β) where
  n := t.n + r.n
  cs x := t.cs x.1 ++ r.cs x.2
  oc x := t.oc x.1 ++ r.oc x.2
  z := t.z ++ r.z
  bytes := 0
  ok x := t.ok x.1 ∧ r.ok x.2
  wt x := t.wt x.1 + r.wt x.2
  d := max t.d r.d
  shape := .cons t.shape r.shape
  csn x := by rw [List.length_append, t.csn, r.csn]
  ocn x := by rw [List.length_append, t.ocn, r.ocn]
  zn := by rw [List.length_append, t.zn, r.zn]
  sh x c h := (List.mem_append.1 h).elim (t.sh x.1 c) (r.sh x.2 c)
  ow x c h := (List.mem_append.1 h).elim (t.ow x.1 c) (r.ow x.2 c)
  zi c h := (List.mem_append.1 h).elim (t.zi c) (r.zi c)
  rc h k x hk := by rw [List.mapM_append, t.rc h k x.1 (by omega), r.rc h k x.2 (by omega)]; rfl
  is l h := by
    obtain ⟨l1, l2, rfl, h1, h2⟩ := h
    obtain ⟨x, rfl, hx⟩ := t.is l1 h1
    obtain ⟨y, rfl, hy⟩ := r.is l2 h2
    exact ⟨(x, y), rfl, hx, hy⟩
def Ty.struct {β γ : Type} (r : Ty β) (f : γ → β) (g : β → γ) (hfg : ∀ b, f (g b) = b) (bytes : Nat) : Ty γ where
  n := r.n
  cs x := r.cs (f x)
  oc x := r.oc (f x)
  z := r.z
  bytes := bytes
  ok x := r.ok (f x)
  wt x := r.wt (f x)
  d := r.d
  shape := .struct r.shape
  csn x := r.csn _
  ocn x := r.ocn _
  zn := r.zn
  sh x := r.sh _
  ow x := r.ow _
  zi := r.zi
  rc h k x hk := r.rc h k _ hk
  is l h := by
    obtain ⟨y, rfl, hy⟩ := r.is l h
    exact ⟨g y, by rw [hfg], by rw [hfg]; exact hy⟩
theorem Zb (h h' : Hp) : merge [] h h' = h' := by funext b; simp [merge]
theorem yb (h : Hp) : hideH [] h = h := by funext b; simp [hideH]
theorem YW {h : Hp} {k : Nat} : ∀ {l : List AV}, shut.shutL l = true → l.mapM (roc h k) = some l
  | [], _ => rfl
  | c :: l, hs => by
    simp only [shut.shutL, Bool.and_eq_true] at hs
    rw [List.mapM_cons, Zy hs.1, YW hs.2]; rfl
theorem Zk {h : Hp} {cs : List AV} : roc h 8 (.agg cs) = (cs.mapM (roc h 7)).map .agg := by
  by_cases hs : shut.shutL cs = true
  · rw [yd hs, YW hs]; rfl
  · rw [roc, if_neg (by simpa [shut] using hs)]
theorem Ty.roc8 {α : Type} (t : Ty α) (hd : t.d ≤ 6) {h : Hp} {b : Nat} {xs : List α} {lim : Bool} (hb : h b = some (some (rows t.oc xs))) : Am.roc h 8 (.sl b 0 xs.length t.n lim) = some (.ro (rows t.cs xs) xs.length) := t.roc (by omega) hb
theorem Ty.roc7 {α : Type} (t : Ty α) (hd : t.d ≤ 6) {h : Hp} {b : Nat} {xs : List α} {lim : Bool} (hb : h b = some (some (rows t.oc xs))) : Am.roc h 7 (.sl b 0 xs.length t.n lim) = some (.ro (rows t.cs xs) xs.length) := t.roc (by omega) hb
theorem zbB {h : Hp} {b : Nat} {xs : List ByteArray} {lim : Bool} (hb : h b = some (some (rows Ty.str.oc xs))) : roc h 8 (.sl b 0 xs.length 1 lim) = some (.ro (rows Ty.str.cs xs) xs.length) := Ty.str.roc8 (by decide) hb
theorem zaB {h : Hp} {b : Nat} {xs : List ByteArray} {lim : Bool} (hb : h b = some (some (rows Ty.str.oc xs))) : roc h 7 (.sl b 0 xs.length 1 lim) = some (.ro (rows Ty.str.cs xs) xs.length) := Ty.str.roc7 (by decide) hb
def ysOf : Nat → List AV → List AV
  | _, [] => []
  | d, .own _ len sz :: l => .sl d 0 len sz false :: ysOf (d + 1) l
  | d, c :: l => c :: ysOf (d + 1) l
def putOf : Nat → List AV → Hp → Hp
  | _, [], h => h
  | d, .own cs _ _ :: l, h => putOf (d + 1) l (upd h d (some (some cs)))
  | d, _ :: l, h => putOf (d + 1) l h
theorem YP : ∀ (l : List AV) (d : Nat), (ysOf d l).length = l.length
  | [], d => rfl
  | c :: l, d => by cases c <;> simp [ysOf, YP l]
theorem zbX : ∀ (l : List AV) (d : Nat), (∀ c ∈ l, OwnC c) → plain.plainL (ysOf d l) = true
  | [], d, _ => rfl
  | c :: l, d, h => by
    have ih := zbX l (d + 1) fun c hc => h c (by simp [hc])
    rcases h c (by simp) with ⟨cs, len, sz, rfl, _⟩ | ⟨v, rfl⟩ <;> simp [ysOf, ih]
theorem zaU : ∀ (l : List AV) (d : Nat) (h : Hp) (b : Nat), (b < d ∨ d + l.length ≤ b) → putOf d l h b = h b
  | [], d, h, b, _ => rfl
  | c :: l, d, h, b, hb => by
    simp only [List.length_cons] at hb
    have ih := fun h' => zaU l (d + 1) h' b (by omega)
    cases c <;> simp only [putOf] <;> rw [ih]
    rw [Yc _ _ (by omega)]
theorem zc7 : ∀ (l : List AV) (d : Nat) (h : Hp) (i : Nat) (cs : List AV) (len sz : Nat), l[i]? = some (.own cs len sz) → putOf d l h (d + i) = some (some cs)
  | [], d, h, i, cs, len, sz, hi => by simp at hi
  | c :: l, d, h, i, cs, len, sz, hi => by
    cases i with
    | zero =>
      simp at hi
      subst hi
      simp only [putOf]
      rw [zaU l (d + 1) _ _ (by omega), Nat.add_zero, zc]
    | succ i =>
      have ih := fun h' => zc7 l (d + 1) h' i cs len sz (by simpa using hi)
      rw [show d + (i + 1) = d + 1 + i by omega]
      cases c <;> simp only [putOf] <;> exact ih _
theorem za1 {ρ : Nat → AV} {n : Nat} : ∀ (l : List AV) (k d : Nat) (h : Hp), l.length < k → (∀ c ∈ l, OwnC c) → (∀ i, i < l.length → h (d + i) = none) → instL k d l ⟨ρ, h, n⟩ = some (ysOf d l, ⟨ρ, putOf d l h, n⟩)
  | [], k, d, h, _, _, _ => by cases k <;> rfl
  | c :: l, k, d, h, hk, ho, hh => by
    cases k with
    | zero => simp at hk
    | succ k =>
    simp only [List.length_cons] at hk hh
    have hd := hh 0 (by omega)
    rw [Nat.add_zero] at hd
    obtain ⟨k, rfl⟩ : ∃ k', k = k' + 1 := ⟨k - 1, by omega⟩
    rcases ho c (by simp) with ⟨cs, len, sz, rfl, _⟩ | ⟨v, rfl⟩
    · have ih := za1 (ρ := ρ) (n := n) l (k + 1) (d + 1) (upd h d (some (some cs))) (by omega) (fun c hc => ho c (by simp [hc])) (fun i hi => by rw [Yc _ _ (by omega)]; have := hh (i + 1) (by omega); rwa [show d + (i + 1) = d + 1 + i by omega] at this)
      rw [instL]
      simp only [inst, hd, yT, ih, Option.map_some, ysOf, putOf]
    · have ih := za1 (ρ := ρ) (n := n) l (k + 1) (d + 1) h (by omega) (fun c hc => ho c (by simp [hc])) (fun i hi => by have := hh (i + 1) (by omega); rwa [show d + (i + 1) = d + 1 + i by omega] at this)
      rw [instL]
      simp only [inst, shut, if_true, ih, Option.map_some, ysOf, putOf]
theorem zfi {ρ : Nat → AV} {n : Nat} {l : List AV} {h : Hp} (d : Nat) (hk : l.length < 63) (ho : ∀ c ∈ l, OwnC c) (hh : ∀ i, i < l.length → h (1000 * (d + 1) + i) = none) : inst 64 d (.agg l) ⟨ρ, h, n⟩ = some (.agg (ysOf (1000 * (d + 1)) l), ⟨ρ, putOf (1000 * (d + 1)) l h, n⟩) := by
  simp only [inst]
  rw [za1 l 63 _ h hk ho hh]
  rfl
theorem Le.packRow {ρ : Nat → AV} {n : Nat} (b : Nat) (post : List AV) : ∀ (oc : List AV) (d : Nat) (pre : List AV) (h : Hp), h b = some (some (pre ++ (ysOf d oc ++ post))) → (∀ c ∈ oc, OwnC c) → (∀ i cs len sz, oc[i]? = some (.own cs len sz) → h (d + i) = some (some cs)) → (b < d ∨ d + oc.length ≤ b) →
    ∃ h', Le ⟨ρ, h, n⟩ ⟨ρ, h', n⟩ ∧ h' b = some (some (pre ++ (oc ++ post))) ∧ ∀ c, c ≠ b → (c < d ∨ d + oc.length ≤ c) → h' c = h c
  | [], d, pre, h, hb, _, _, _ => ⟨h, Le.refl _, hb, fun _ _ _ => rfl⟩
  | c :: oc, d, pre, h, hb, ho, hh, hd => by
    simp only [List.length_cons] at hd
    rcases ho c (by simp) with ⟨cs, len, sz, rfl, hl, hid, hfl⟩ | ⟨v, rfl⟩
    · simp only [ysOf] at hb
      have hi := hh 0 cs len sz rfl
      rw [Nat.add_zero] at hi
      have hj : (pre ++ (AV.sl d 0 len sz false :: ysOf (d + 1) oc ++ post))[pre.length]? = some (.sl d 0 len sz false) := by
        rw [List.getElem?_append_right (Nat.le_refl _)]; simp
      have hp := Le.pack (st := ⟨ρ, h, n⟩) b pre.length hb hj hi (by omega) hl hid
      have hset : (pre ++ (AV.sl d 0 len sz false :: ysOf (d + 1) oc ++ post)).set pre.length (.own cs len sz) = (pre ++ [.own cs len sz]) ++ (ysOf (d + 1) oc ++ post) := by
        rw [List.set_append_right _ _ (Nat.le_refl _)]; simp
      rw [hset] at hp
      obtain ⟨h', k1, k2, k3⟩ := Le.packRow b post oc (d + 1) (pre ++ [.own cs len sz]) (upd (upd (upd h d (some none)) b (some none)) b (some (some ((pre ++ [.own cs len sz]) ++ (ysOf (d + 1) oc ++ post))))) (by rw [zc]) (fun c hc => ho c (by simp [hc])) (fun i cs' len' sz' hi' => by
        rw [Yc _ _ (by have := (List.getElem?_eq_some_iff.1 hi').1; omega), Yc _ _ (by have := (List.getElem?_eq_some_iff.1 hi').1; omega), Yc _ _ (by omega)]
        have := hh (i + 1) cs' len' sz' (by simpa using hi')
        rwa [show d + (i + 1) = d + 1 + i by omega] at this) (by omega)
      refine ⟨h', Le.trans hp k1, by rw [k2]; simp, fun c hc hcd => ?_⟩
      simp only [List.length_cons] at hcd
      rw [k3 c hc (by omega), Yc _ _ hc, Yc _ _ hc, Yc _ _ (by omega)]
    · simp only [ysOf] at hb
      obtain ⟨h', k1, k2, k3⟩ := Le.packRow b post oc (d + 1) (pre ++ [.sc v]) h (by rw [hb]; simp) (fun c hc => ho c (by simp [hc])) (fun i cs' len' sz' hi' => by
        have := hh (i + 1) cs' len' sz' (by simpa using hi')
        rwa [show d + (i + 1) = d + 1 + i by omega] at this) (by omega)
      refine ⟨h', k1, by rw [k2]; simp, fun c hc hcd => ?_⟩
      simp only [List.length_cons] at hcd
      exact k3 c hc (by omega)
def toSC (sz bytes : Nat) (z : List AV) (g : FuncId) : AC := .seq (.ops [⟨(some 2), none, .q (.mov (.c .em))⟩])
  (.seq (.ops [⟨(some 5), none, .q (.mov (.t 0))⟩, ⟨(some 6), none, .q (.llen (.t 5))⟩, ⟨(some 7), none, .w (.mk sz bytes z (.t 6) (.t 6))⟩, ⟨(some 3), none, .q (.mov (.t 7))⟩])
  (.seq (.seq (.ops [⟨(some 4), none, .q (.mov (.c (.sc (.int .i64 0))))⟩])
  (.block 0 (.loop (.seq (.seq (.ops [⟨(some 8), none, .q (.mov (.t 4))⟩, ⟨(some 9), none, .q (.mov (.t 0))⟩, ⟨(some 10), none, .q (.llen (.t 9))⟩, ⟨(some 11), none, .q (.bin .lss (.t 8) (.t 10))⟩])
  (.cond (.t 11) .skip
  (.exit 0)))
  (.seq (.block 1 (.ops [⟨(some 14), none, .q (.mov (.t 3))⟩, ⟨(some 15), none, .q (.mov (.t 4))⟩, ⟨(some 16), none, .q (.mov (.t 0))⟩, ⟨(some 17), none, .q (.mov (.t 4))⟩, ⟨(some 18), none, .q (.iadr sz (.t 16) (.t 17))⟩, ⟨(some 19), none, .q (.load true sz (.t 18))⟩, ⟨(some 20), none, .c (.c (.clo g [])) [(.t 19)]⟩, ⟨(some 21), none, .q (.iadr sz (.t 14) (.t 15))⟩, ⟨none, none, .w (.store sz (.t 21) (.t 20))⟩]))
  (.ops [⟨(some 12), none, .q (.mov (.t 4))⟩, ⟨(some 13), none, .q (.bin .add (.t 12) (.c (.sc (.int .i64 1))))⟩, ⟨(some 4), none, .q (.mov (.t 13))⟩]))))))
  (.seq (.ops [⟨(some 22), none, .q (.mov (.t 3))⟩, ⟨(some 2), none, .q (.mov (.t 22))⟩])
  .ret)))
theorem zbl {α : Type} (z : List AV) (rest : List α) : (List.replicate rest.length z).flatten = rows (fun _ => z) rest := zcN z rest
theorem Ret.toS {P : Program} {α : Type} (t : Ty α) {F g : FuncId} {fn : Func} (hf : P.funcs[F]? = some fn) (hk : fn.body.bind (comp P) = some (toSC t.n t.bytes t.z g) ∧ fn.ntmps = 23 ∧ fn.results.toList.mapM (resB P) = some [.mov (.t 2)])
    (hgc : callB P g = true) (hg : ∀ x, t.ok x → Ret P g [.agg (t.cs x)] (.agg (t.oc x)) [.un]) (ht : t.n < 63) (hby : 0 < t.bytes) (xs : List α) (hx : t.slice.ok xs) :
    Ret P F [.ro (rows t.cs xs) xs.length] (.own (rows t.oc xs) xs.length t.n) [.un] := by
  refine Ret.run hf hk (by simp) rfl rfl 500 ?_
  obtain ⟨hb, hs⟩ := hx
  have hb2 : xs.length ≤ 140737488351232 := Nat.le_trans (Nat.le_mul_of_pos_right _ hby) hb
  have h1 : (xs.length : Int) * t.bytes ≤ 281474976710656 := by rw [← Int.natCast_mul]; omega
  have h2 : (xs.length : Int) ≤ 9223372036854775807 := by omega
  simp [toSC, iniρ, h1, h2]
  refine T.rounds (μ := fun i : List α × List α => i.2.length)
    (fun i s => i.1 ++ i.2 = xs ∧ s.ρ 0 = .ro (rows t.cs xs) xs.length ∧ s.ρ 3 = .sl 7 0 xs.length t.n false ∧ s.ρ 4 = .sc (.int .i64 i.1.length) ∧ s.h 7 = some (some (rows t.oc i.1 ++ rows (fun _ => t.z) i.2)) ∧ (∀ i, i < t.n → s.h (21000 + i) = none) ∧ s.n = 23) ([], xs) (by
      refine ⟨rfl, by simp, by simp, by simp, by simp [zf, zbl], fun i hi => ?_, rfl⟩
      show upd h0 7 _ (21000 + i) = none
      rw [Yc _ _ (by omega)]; rfl) ?_
  rintro ⟨pre, rest⟩ ⟨ρ, hh, n⟩ ⟨hx, h0', h3', h4', h7', hf', rfl⟩
  simp only at hx h0' h3' h4' h7' hf'
  refine Zf (n := 400) ?_
  cases rest with
  | nil =>
    simp at hx
    subst hx
    simp [h0', h3', h4']
    refine T.on 400 ?_
    simp [h3', h7', ex1, zf, zb t.ocn, Zd (fun x c hc => (t.ow x c hc).fr)]
  | cons x rest =>
    have hlt : (pre.length : Int) < xs.length := by rw [← hx]; simp only [List.length_append, List.length_cons]; omega
    have hxs : t.ok x := hs x (by rw [← hx]; simp)
    have hd := Yd t.csn pre (x :: rest)
    rw [hx, Zc] at hd
    have hw : IntKind.i64.wrap ((pre.length : Int) + 1) = pre.length + 1 := Ya (by omega) (by omega)
    have hov := ZN (f := t.oc) (z := fun _ => t.z) t.ocn (fun _ => t.zn) pre rest x (ysOf 21000 (t.oc x)) (by rw [YP, t.ocn])
    have hle : pre.length * t.n + t.n ≤ (rows t.oc pre).length + (rows (fun _ => t.z) (x :: rest)).length := by rw [zb t.ocn, zb (fun _ => t.zn), List.length_cons, Nat.succ_mul]; omega
    simp [h0', h3', h4', h7', hlt, hd, t.csn, t.tk, t.plL]
    refine callK.ro (st3 := ⟨_, putOf 21000 (t.oc x) hh, 23⟩) (y := .agg (ysOf 21000 (t.oc x))) 20 rfl hgc (by simp [Zy, t.shL]) (hg x hxs) (by simpa [flt] using t.flL x)
      (by exact zfi (h := hh) 20 (by rw [t.ocn]; exact ht) (t.ow x) (fun i hi => hf' i (by rw [t.ocn] at hi; exact hi))) rfl ?_
    have hp7 : putOf 21000 (t.oc x) hh 7 = some (some (rows t.oc pre ++ rows (fun _ => t.z) (x :: rest))) := by rw [zaU _ _ _ _ (by omega), h7']
    simp [h3', h4', hp7, hlt, YP, t.ocn, hle, hov, hw]
    refine ⟨pre ++ [x], rest, by simp, ?_⟩
    obtain ⟨h', k1, k2, k3⟩ := Le.packRow (ρ := upd (upd (upd (upd (upd (upd (upd (upd (upd (upd (upd (upd (upd (upd (upd ρ 8 (.sc (.int .i64 pre.length))) 9 (.ro (rows t.cs xs) xs.length)) 10 (.sc (.int .i64 xs.length))) 11 (.sc (.bool true))) 14 (.sl 7 0 xs.length t.n false)) 15 (.sc (.int .i64 pre.length))) 16 (.ro (rows t.cs xs) xs.length)) 17 (.sc (.int .i64 pre.length))) 18 (.rp (rows t.cs xs) (pre.length * t.n))) 19 (.agg (t.cs x))) 20 (.agg (ysOf 21000 (t.oc x)))) 21 (.ref 7 (pre.length * t.n))) 12 (.sc (.int .i64 pre.length))) 13 (.sc (.int .i64 (pre.length + 1)))) 4 (.sc (.int .i64 (pre.length + 1)))) (n := 23) 7 (rows (fun _ => t.z) rest) (t.oc x) 21000 (rows t.oc pre) (upd (putOf 21000 (t.oc x) hh) 7 (some (some (rows t.oc pre ++ (ysOf 21000 (t.oc x) ++ rows (fun _ => t.z) rest)))))
      (by rw [zc]) (t.ow x) (fun i cs len sz hi => by rw [Yc _ _ (by omega)]; exact zc7 _ _ _ _ _ _ _ hi) (by omega)
    refine ⟨_, Le.trans k1 (Le.reset [0, 3, 4] [7] ?_ ?_), ?_⟩
    · simp [za, menB, Yb, h0', h3', h4']
    · intro b hb cs hcs
      simp at hb
      subst hb
      simp [k2] at hcs
      subst hcs
      intro y hy
      rcases List.mem_append.1 hy with hy | hy
      · exact Yj (fun x c hc => (t.ow x c hc).fr) _ y hy
      · rcases List.mem_append.1 hy with hy | hy
        · exact (t.ow x y hy).fr
        · exact Yj (f := fun _ => t.z) (fun _ c hc => t.zi c hc) _ y hy
    · refine ⟨by simpa using hx, by simp [za, h0'], by simp [za, h3'], by simp [za], ?_, fun i hi => ?_, rfl⟩
      · simp [k2, ze, Zc, zf]
      · show keepH [7] h' (21000 + i) = none
        unfold keepH
        rw [if_neg (by simp; omega)]
end Go.Proofs.YtopofpihpnjmbaaGreatDoor.Am
