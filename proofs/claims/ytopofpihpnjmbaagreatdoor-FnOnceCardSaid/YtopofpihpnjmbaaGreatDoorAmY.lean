/- Types of values; functions alike from type to type, each kind once; no condition. -/
import Derived.Test.YtopofpihpnjmbaaGreatDoorAmX
import Derived.Test.YtopofpihpnjmbaaGreatDoorAmU
import Derived.Test.YtopofpihpnjmbaaGreatDoorAmT
namespace Go.Proofs.YtopofpihpnjmbaaGreatDoor.Am
open Go
set_option linter.unusedSimpArgs false
set_option linter.unusedVariables false
attribute [local congr] yP yt zq
attribute [local simp] yM ZM zM yL zC Zy YL ZB zk Zo YB Zk Yo yB YM YC yC ZC y1 Z1 Z2 Y1 zD yy YO zP aval dOk za ev_t ev_c zw zy yZ yA isIo hasIo sbin endR fin resL one outL out1 clo1 cloL coe coeL shut shut.shutL wantA weff cellsOf fillA deref natOf ρ0_app Y0 plain plain.plainL Zf Ye Yk Yt Zq yH Zw Zn yk ZN zt Zp
def OwnC (c : AV) : Prop := (∃ cs len sz, c = .own cs len sz ∧ cs.length = len * sz ∧ zb.idfreeL cs = true ∧ flt.fltL cs = true) ∨ ∃ v, c = .sc v
def wtL {α : Type} (wt : α → Nat) : List α → Nat
  | [] => 0
  | x :: xs => wt x + wtL wt xs
structure Ty (α : Type) where
  n : Nat
  cs : α → List AV
  oc : α → List AV
  z : List AV
  bytes : Nat
  ok : α → Prop
  wt : α → Nat
  d : Nat
  shape : Sh
  csn : ∀ x, (cs x).length = n
  ocn : ∀ x, (oc x).length = n
  zn : z.length = n
  sh : ∀ x, ∀ c ∈ cs x, shut c = true
  ow : ∀ x, ∀ c ∈ oc x, OwnC c
  zi : ∀ c ∈ z, zb c = true
  rc : ∀ h k x, d ≤ k → (oc x).mapM (roc h k) = some (cs x)
  is : ∀ l, Is shape l → ∃ x, l = cs x ∧ ok x
theorem OwnC.fr {c : AV} (h : OwnC c) : zb c = true := by
  rcases h with ⟨cs, len, sz, rfl, _, h, _⟩ | ⟨v, rfl⟩
  · exact h
  · rfl
theorem OwnC.fl {c : AV} (h : OwnC c) : flt c = true := by
  rcases h with ⟨cs, len, sz, rfl, _, _, h⟩ | ⟨v, rfl⟩
  · exact h
  · rfl
mutual
theorem zav : ∀ {c : AV}, shut c = true → plain c = true
  | .agg cs, h => YP cs h
  | .tup cs, h => YP cs h
  | .clo _ cs, h => YP cs h
  | .un, _ => rfl
  | .sc _, _ => rfl
  | .em, _ => rfl
  | .ro .., _ => rfl
  | .rp .., _ => rfl
  | .ref .., _ => rfl
  | .sl .., _ => rfl
  | .pf .., _ => rfl
  | .own .., h => h
  | .io .., h => h
  | .bx .., h => h
theorem YP : ∀ (l : List AV), shut.shutL l = true → plain.plainL l = true
  | [], _ => rfl
  | x :: l, h => by
    simp only [shut.shutL, Bool.and_eq_true] at h
    simp only [plain.plainL, Bool.and_eq_true]
    exact ⟨zav h.1, YP l h.2⟩
end
theorem Z8 {l : List AV} (h : ∀ c ∈ l, shut c = true) : plain.plainL l = true := zcy fun c hc => zav (h c hc)
theorem zN {h : Hp} {k : Nat} {x : AV} (hs : shut x = true) : roc h k x = some x := by cases k <;> simp only [roc, if_pos hs]
theorem Yc {h : Hp} {k : Nat} {v : Value} : roc h k (.sc v) = some (.sc v) := zN rfl
theorem ze {h : Hp} {k : Nat} {cs : List AV} {n : Nat} : roc h k (.ro cs n) = some (.ro cs n) := zN rfl
theorem zI {h : Hp} {k : Nat} : roc h k .em = some .em := zN rfl
theorem Zg {h : Hp} {k : Nat} {cs : List AV} (hs : shut.shutL cs = true) : roc h k (.agg cs) = some (.agg cs) := zN hs
section
variable {α : Type} (t : Ty α)
theorem Ty.shL (x : α) : shut.shutL (t.cs x) = true := zB (t.sh x)
theorem Ty.plL (x : α) : plain.plainL (t.cs x) = true := Z8 (t.sh x)
theorem Ty.tk (x : α) (l : List AV) : (t.cs x ++ l).take t.n = t.cs x := by rw [← t.csn x]; simp
theorem Ty.flo (xs : List α) : flt (.own (rows t.oc xs) xs.length t.n) = true := by
  have := zcO (f := t.oc) (fun x c hc => (t.ow x c hc).fl) xs
  simpa [flt] using this
theorem Ty.flL (x : α) : flt.fltL (t.oc x) = true := by
  have h := t.ow x
  generalize t.oc x = l at h
  induction l with
  | nil => rfl
  | cons c l ih => simp only [flt.fltL, Bool.and_eq_true]; exact ⟨(h c (by simp)).fl, ih fun c hc => h c (by simp [hc])⟩
theorem Ty.frL (xs : List α) : zb.idfreeL (rows t.oc xs) = true := Zd (fun x c hc => (t.ow x c hc).fr) xs
theorem Ty.rcs (h : Hp) {k : Nat} (hk : t.d ≤ k) (xs : List α) : (rows t.oc xs).mapM (roc h k) = some (rows t.cs xs) := by
  induction xs with
  | nil => rfl
  | cons x xs ih => rw [yc, yc, List.mapM_append, t.rc h k x hk, ih]; rfl
theorem Ty.roc {h : Hp} {b k : Nat} {xs : List α} {lim : Bool} (hd : t.d ≤ k) (hb : h b = some (some (rows t.oc xs))) : Am.roc h (k + 1) (.sl b 0 xs.length t.n lim) = some (.ro (rows t.cs xs) xs.length) := by
  unfold Am.roc
  rw [if_neg (by simp)]
  simp only [hb]
  have hl : 0 + xs.length * t.n ≤ (rows t.oc xs).length := by rw [Yb t.ocn]; omega
  rw [if_pos hl]
  have ht : (List.drop 0 (rows t.oc xs)).take (xs.length * t.n) = rows t.oc xs := by rw [List.drop_zero, List.take_of_length_le (by rw [Yb t.ocn]; exact Nat.le_refl _)]
  rw [ht]
  have hm := t.rcs h hd xs
  split
  · rename_i hs
    -- all shut: read as it is
    have : ∀ (l ys : List AV), shut.shutL l = true → l.mapM (Am.roc h k) = some ys → ys = l := by
      intro l
      induction l with
      | nil => intro ys _ e; simp at e; exact e
      | cons c l ih =>
        intro ys hs e
        simp only [shut.shutL, Bool.and_eq_true] at hs
        simp only [List.mapM_cons, Option.bind_eq_bind, Option.bind_eq_some_iff, Option.pure_def, Option.some.injEq] at e
        obtain ⟨y, hy, ys', hys, rfl⟩ := e
        have : y = c := by cases k <;> simp only [Am.roc, if_pos hs.1, Option.some.injEq] at hy <;> exact hy.symm
        rw [this, ih ys' hs.2 hys]
    rw [this _ _ hs hm]
  · rw [hm]; rfl
end
def Ty.str : Ty ByteArray where
  n := 1
  cs s := [.sc (.string s)]
  oc s := [.sc (.string s)]
  z := [.sc (.string ⟨#[]⟩)]
  bytes := 16
  ok s := s.size ≤ 140737488351232
  wt s := s.size
  d := 0
  shape := .str
  csn _ := rfl
  ocn _ := rfl
  zn := rfl
  sh := by simp
  ow x c h := by simp at h; subst h; exact .inr ⟨_, rfl⟩
  zi := by simp [zb]
  rc h k x _ := by simp [Yc]
  is l h := by obtain ⟨s, h1, rfl⟩ := h; exact ⟨s, rfl, h1⟩
def Ty.int : Ty Int where
  n := 1
  cs n := [.sc (.int .i64 n)]
  oc n := [.sc (.int .i64 n)]
  z := [.sc (.int .i64 0)]
  bytes := 8
  ok n := -9223372036854775808 ≤ n ∧ n ≤ 9223372036854775807
  wt _ := 0
  d := 0
  shape := .int .i64
  csn _ := rfl
  ocn _ := rfl
  zn := rfl
  sh := by simp
  ow x c h := by simp at h; subst h; exact .inr ⟨_, rfl⟩
  zi := by simp [zb]
  rc h k x _ := by simp [Yc]
  is l h := by
    obtain ⟨n, h1, rfl⟩ := h
    refine ⟨n, rfl, ?_⟩
    simp [Lit.wf, IntKind.min, IntKind.max, IntKind.signed, IntKind.bits] at h1
    omega
def Ty.byte : Ty Int where
  n := 1
  cs n := B n
  oc n := B n
  z := [.sc (.int .u8 0)]
  bytes := 1
  ok n := 0 ≤ n ∧ n ≤ 255
  wt _ := 0
  d := 0
  shape := .int .u8
  csn _ := rfl
  ocn _ := rfl
  zn := rfl
  sh := by simp [B]
  ow x c h := by simp [B] at h; subst h; exact .inr ⟨_, rfl⟩
  zi := by simp [zb]
  rc h k x _ := by simp [B, Yc]
  is l h := by
    obtain ⟨n, h1, rfl⟩ := h
    refine ⟨n, rfl, ?_⟩
    simp [Lit.wf, IntKind.min, IntKind.max, IntKind.signed, IntKind.bits] at h1
    omega
def Ty.bool : Ty Bool where
  n := 1
  cs b := [.sc (.bool b)]
  oc b := [.sc (.bool b)]
  z := [.sc (.bool false)]
  bytes := 1
  ok _ := True
  wt _ := 0
  d := 0
  shape := .bool
  csn _ := rfl
  ocn _ := rfl
  zn := rfl
  sh := by simp
  ow x c h := by simp at h; subst h; exact .inr ⟨_, rfl⟩
  zi := by simp [zb]
  rc h k x _ := by simp [Yc]
  is l h := by obtain ⟨b, rfl⟩ := h; exact ⟨b, rfl, trivial⟩
theorem Ty.rowsIs {α : Type} (t : Ty α) : ∀ rs : List (List AV), (∀ r ∈ rs, Is t.shape r) → ∃ xs : List α, rs = xs.map t.cs ∧ ∀ x ∈ xs, t.ok x
  | [], _ => ⟨[], rfl, by simp⟩
  | r :: rs, h => by
    obtain ⟨xs, rfl, h1⟩ := t.rowsIs rs fun r hr => h r (by simp [hr])
    obtain ⟨x, rfl, h2⟩ := t.is r (h r (by simp))
    exact ⟨x :: xs, rfl, fun y hy => (List.mem_cons.1 hy).elim (fun e => e ▸ h2) (h1 y)⟩
def Ty.slice {α : Type} (t : Ty α) : Ty (List α) where
  n := 1
  cs l := [.ro (rows t.cs l) l.length]
  oc l := [.own (rows t.oc l) l.length t.n]
  z := [.em]
  bytes := 24
  ok l := l.length * t.bytes ≤ 140737488351232 ∧ ∀ x ∈ l, t.ok x
  wt l := l.length + wtL t.wt l
  d := t.d + 1
  shape := .slice t.bytes t.n t.shape
  csn _ := rfl
  ocn _ := rfl
  zn := rfl
  sh := by simp
  ow l c h := by
    simp at h
    subst h
    exact .inl ⟨_, _, _, rfl, Yb t.ocn l, Zd (fun x c hc => (t.ow x c hc).fr) l, by have := t.flo l; simpa [flt] using this⟩
  zi := by simp [zb]
  rc h k l hk := by
    obtain ⟨k, rfl⟩ : ∃ k', k = k' + 1 := ⟨k - 1, by omega⟩
    have e : Am.roc h (k + 1) (.own (rows t.oc l) l.length t.n) = ((rows t.oc l).mapM (Am.roc h k)).map fun ys => .ro ys l.length := rfl
    rw [List.mapM_cons, e, t.rcs h (by omega)]
    rfl
  is l h := by
    obtain ⟨rs, rfl, hb, h⟩ := h
    obtain ⟨xs, rfl, hx⟩ := t.rowsIs rs h
    refine ⟨xs, by simp [rows], ?_, hx⟩
    have : reachBytes = 140737488351232 := rfl
    rw [this] at hb
    simpa using hb
theorem Ty.lenb {α : Type} (t : Ty α) (hby : 0 < t.bytes) {xs : List α} (h : t.slice.ok xs) : xs.length < 4611686018427387904 := by
  have := Nat.le_trans (Nat.le_mul_of_pos_right xs.length hby) h.1
  omega
theorem zbW (xs : List ByteArray) : (rows Ty.str.oc xs).length = xs.length := by rw [Yb Ty.str.ocn]; exact Nat.mul_one _
def Ty.nil : Ty Unit where
  n := 0
  cs _ := []
  oc _ := []
  z := []
  bytes := 0
  ok _ := True
  wt _ := 0
  d := 0
  shape := .nil
  csn _ := rfl
  ocn _ := rfl
  zn := rfl
  sh := by simp
  ow := by simp
  zi := by simp
  rc h k x _ := rfl
  is l h := ⟨(), h, trivial⟩
def Ty.cons {α β : Type} (t : Ty α) (r : Ty β) : Ty (α × β) where
  n := t.n + r.n
  cs x := t.cs x.1 ++ r.cs x.2
  oc x := t.oc x.1 ++ r.oc x.2
  z := t.z ++ r.z
  bytes := 0
  ok x := t.ok x.1 ∧ r.ok x.2
  wt x := t.wt x.1 + r.wt x.2
  d := max t.d r.d
  shape := .cons t.shape r.shape
  csn x := by rw [List.length_append, t.csn, r.csn]
  ocn x := by rw [List.length_append, t.ocn, r.ocn]
  zn := by rw [List.length_append, t.zn, r.zn]
  sh x c h := (List.mem_append.1 h).elim (t.sh x.1 c) (r.sh x.2 c)
  ow x c h := (List.mem_append.1 h).elim (t.ow x.1 c) (r.ow x.2 c)
  zi c h := (List.mem_append.1 h).elim (t.zi c) (r.zi c)
  rc h k x hk := by rw [List.mapM_append, t.rc h k x.1 (by omega), r.rc h k x.2 (by omega)]; rfl
  is l h := by
    obtain ⟨l1, l2, rfl, h1, h2⟩ := h
    obtain ⟨x, rfl, hx⟩ := t.is l1 h1
    obtain ⟨y, rfl, hy⟩ := r.is l2 h2
    exact ⟨(x, y), rfl, hx, hy⟩
def Ty.struct {β γ : Type} (r : Ty β) (f : γ → β) (g : β → γ) (hfg : ∀ b, f (g b) = b) (bytes : Nat) : Ty γ where
  n := r.n
  cs x := r.cs (f x)
  oc x := r.oc (f x)
  z := r.z
  bytes := bytes
  ok x := r.ok (f x)
  wt x := r.wt (f x)
  d := r.d
  shape := .struct r.shape
  csn x := r.csn _
  ocn x := r.ocn _
  zn := r.zn
  sh x := r.sh _
  ow x := r.ow _
  zi := r.zi
  rc h k x hk := r.rc h k _ hk
  is l h := by
    obtain ⟨y, rfl, hy⟩ := r.is l h
    exact ⟨g y, by rw [hfg], by rw [hfg]; exact hy⟩
theorem Zb (h h' : Hp) : merge [] h h' = h' := by funext b; simp [merge]
theorem yb (h : Hp) : hideH [] h = h := by funext b; simp [hideH]
theorem ZO {h : Hp} {k : Nat} : ∀ {l : List AV}, shut.shutL l = true → l.mapM (roc h k) = some l
  | [], _ => rfl
  | c :: l, hs => by
    simp only [shut.shutL, Bool.and_eq_true] at hs
    rw [List.mapM_cons, zN hs.1, ZO hs.2]; rfl
theorem Yh {h : Hp} {cs : List AV} : roc h 8 (.agg cs) = (cs.mapM (roc h 7)).map .agg := by
  by_cases hs : shut.shutL cs = true
  · rw [Zg hs, ZO hs]; rfl
  · rw [roc, if_neg (by simpa [shut] using hs)]
theorem Ty.roc8 {α : Type} (t : Ty α) (hd : t.d ≤ 6) {h : Hp} {b : Nat} {xs : List α} {lim : Bool} (hb : h b = some (some (rows t.oc xs))) : Am.roc h 8 (.sl b 0 xs.length t.n lim) = some (.ro (rows t.cs xs) xs.length) := t.roc (by omega) hb
theorem Ty.roc7 {α : Type} (t : Ty α) (hd : t.d ≤ 6) {h : Hp} {b : Nat} {xs : List α} {lim : Bool} (hb : h b = some (some (rows t.oc xs))) : Am.roc h 7 (.sl b 0 xs.length t.n lim) = some (.ro (rows t.cs xs) xs.length) := t.roc (by omega) hb
theorem zbV {h : Hp} {b : Nat} {xs : List ByteArray} {lim : Bool} (hb : h b = some (some (rows Ty.str.oc xs))) : roc h 8 (.sl b 0 xs.length 1 lim) = some (.ro (rows Ty.str.cs xs) xs.length) := Ty.str.roc8 (by decide) hb
theorem yq {h : Hp} {b : Nat} {xs : List ByteArray} {lim : Bool} (hb : h b = some (some (rows Ty.str.oc xs))) : roc h 7 (.sl b 0 xs.length 1 lim) = some (.ro (rows Ty.str.cs xs) xs.length) := Ty.str.roc7 (by decide) hb
def ysOf : Nat → List AV → List AV
  | _, [] => []
  | d, .own _ len sz :: l => .sl d 0 len sz false :: ysOf (d + 1) l
  | d, c :: l => c :: ysOf (d + 1) l
theorem zaW : ∀ (l : List AV) (d : Nat), (ysOf d l).length = l.length
  | [], d => rfl
  | c :: l, d => by cases c <;> simp [ysOf, zaW l]
theorem zck : ∀ (l : List AV) (d : Nat), (∀ c ∈ l, OwnC c) → plain.plainL (ysOf d l) = true
  | [], d, _ => rfl
  | c :: l, d, h => by
    have ih := zck l (d + 1) fun c hc => h c (by simp [hc])
    rcases h c (by simp) with ⟨cs, len, sz, rfl, _⟩ | ⟨v, rfl⟩ <;> simp [ysOf, ih]
end Go.Proofs.YtopofpihpnjmbaaGreatDoor.Am
