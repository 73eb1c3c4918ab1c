/- The data of the functions, as plain data; printed by lift.py. -/
import Derived.Test.YtfihinodhhhllaaGreatIvW
set_option linter.unusedVariables false
set_option linter.unusedSimpArgs false
namespace Go.Proofs.YtfihinodhhhllaaGreat
open Go
structure YLimit where
  depth : Int
  bytes : Int
@[go_sem] def YLimit.cs (v : YLimit) : List AV := [.int .i64 v.depth, .int .i64 v.bytes]
@[go_sem] def YLimit.av (v : YLimit) : AV := .agg (YLimit.cs v)
@[go_sem] theorem YLimit.bndL_map (l : List YLimit) : AV.bndL (l.map YLimit.av) = 0 := by
  induction l with
  | nil => rfl
  | cons x l ih => simp only [List.map_cons, AV.bndL, ih]; simp only [go_sem]
structure YValue where
  kind : Int
  n_ : Int
  s : List UInt8
  l : List YValue
  iDs : List Int
mutual
def YValue.av : YValue → AV
  | ⟨kind, n_, s, l, iDs⟩ => .agg [.int .i64 kind, .int .i64 n_, .str s, .sl false 5 (YValue.avs l), .sl false 1 (List.map (AV.int .i64) iDs)]
def YValue.avs : List YValue → List AV
  | [] => []
  | x :: l => YValue.av x :: YValue.avs l
end
theorem YValue.avs_eq (l : List YValue) : YValue.avs l = l.map YValue.av := by
  induction l with
  | nil => rfl
  | cons x l ih => simp [YValue.avs, ih]
@[go_sem] def YValue.cs (v : YValue) : List AV := [.int .i64 v.kind, .int .i64 v.n_, .str v.s, .sl false 5 (List.map YValue.av v.l), .sl false 1 (List.map (AV.int .i64) v.iDs)]
@[go_sem] theorem YValue.av_eq (v : YValue) : YValue.av v = .agg (YValue.cs v) := by cases v; simp [YValue.av, YValue.cs, YValue.avs_eq]
mutual
theorem YValue.bnd0 : ∀ v : YValue, (YValue.av v).bnd = 0
  | ⟨kind, n_, s, l, iDs⟩ => by simp [YValue.av, AV.bnd, AV.bndL, bndL_ints, bndL_strs, bndL_e8, YValue.bndL0 l]
theorem YValue.bndL0 : ∀ l : List YValue, AV.bndL (YValue.avs l) = 0
  | [] => rfl
  | x :: l => by simp [YValue.avs, AV.bndL, YValue.bnd0 x, YValue.bndL0 l]
end
@[go_sem] theorem YValue.bndL_map (l : List YValue) : AV.bndL (l.map YValue.av) = 0 := by rw [← YValue.avs_eq]; exact YValue.bndL0 l
structure YSField where
  iD : Int
  req : Int
  type_ : List UInt8
  name : List UInt8
  hasInit : Bool
  init : YValue
@[go_sem] def YSField.cs (v : YSField) : List AV := [.int .i64 v.iD, .int .i64 v.req, .str v.type_, .str v.name, .bool v.hasInit, .int .i64 v.init.kind, .int .i64 v.init.n_, .str v.init.s, .sl false 5 (List.map YValue.av v.init.l), .sl false 1 (List.map (AV.int .i64) v.init.iDs)]
@[go_sem] def YSField.av (v : YSField) : AV := .agg (YSField.cs v)
@[go_sem] theorem YSField.bndL_map (l : List YSField) : AV.bndL (l.map YSField.av) = 0 := by
  induction l with
  | nil => rfl
  | cons x l ih => simp only [List.map_cons, AV.bndL, ih]; simp only [go_sem]
structure YSStruct where
  kind : Int
  name : List UInt8
  fields : List YSField
@[go_sem] def YSStruct.cs (v : YSStruct) : List AV := [.int .i64 v.kind, .str v.name, .sl false 10 (List.map YSField.av v.fields)]
@[go_sem] def YSStruct.av (v : YSStruct) : AV := .agg (YSStruct.cs v)
@[go_sem] theorem YSStruct.bndL_map (l : List YSStruct) : AV.bndL (l.map YSStruct.av) = 0 := by
  induction l with
  | nil => rfl
  | cons x l ih => simp only [List.map_cons, AV.bndL, ih]; simp only [go_sem]
structure YMember where
  name : List UInt8
  has : Bool
  n_ : Int
@[go_sem] def YMember.cs (v : YMember) : List AV := [.str v.name, .bool v.has, .int .i64 v.n_]
@[go_sem] def YMember.av (v : YMember) : AV := .agg (YMember.cs v)
@[go_sem] theorem YMember.bndL_map (l : List YMember) : AV.bndL (l.map YMember.av) = 0 := by
  induction l with
  | nil => rfl
  | cons x l ih => simp only [List.map_cons, AV.bndL, ih]; simp only [go_sem]
structure YSEnum where
  name : List UInt8
  members : List YMember
@[go_sem] def YSEnum.cs (v : YSEnum) : List AV := [.str v.name, .sl false 3 (List.map YMember.av v.members)]
@[go_sem] def YSEnum.av (v : YSEnum) : AV := .agg (YSEnum.cs v)
@[go_sem] theorem YSEnum.bndL_map (l : List YSEnum) : AV.bndL (l.map YSEnum.av) = 0 := by
  induction l with
  | nil => rfl
  | cons x l ih => simp only [List.map_cons, AV.bndL, ih]; simp only [go_sem]
structure YSMethod where
  name : List UInt8
  oneway : Bool
  ret : List UInt8
  args : List YSField
  throws : List YSField
@[go_sem] def YSMethod.cs (v : YSMethod) : List AV := [.str v.name, .bool v.oneway, .str v.ret, .sl false 10 (List.map YSField.av v.args), .sl false 10 (List.map YSField.av v.throws)]
@[go_sem] def YSMethod.av (v : YSMethod) : AV := .agg (YSMethod.cs v)
@[go_sem] theorem YSMethod.bndL_map (l : List YSMethod) : AV.bndL (l.map YSMethod.av) = 0 := by
  induction l with
  | nil => rfl
  | cons x l ih => simp only [List.map_cons, AV.bndL, ih]; simp only [go_sem]
structure YSService where
  name : List UInt8
  methods : List YSMethod
@[go_sem] def YSService.cs (v : YSService) : List AV := [.str v.name, .sl false 5 (List.map YSMethod.av v.methods)]
@[go_sem] def YSService.av (v : YSService) : AV := .agg (YSService.cs v)
@[go_sem] theorem YSService.bndL_map (l : List YSService) : AV.bndL (l.map YSService.av) = 0 := by
  induction l with
  | nil => rfl
  | cons x l ih => simp only [List.map_cons, AV.bndL, ih]; simp only [go_sem]
structure YSchema where
  structs : List YSStruct
  enums : List YSEnum
  services : List YSService
@[go_sem] def YSchema.cs (v : YSchema) : List AV := [.sl false 3 (List.map YSStruct.av v.structs), .sl false 2 (List.map YSEnum.av v.enums), .sl false 2 (List.map YSService.av v.services)]
@[go_sem] def YSchema.av (v : YSchema) : AV := .agg (YSchema.cs v)
@[go_sem] theorem YSchema.bndL_map (l : List YSchema) : AV.bndL (l.map YSchema.av) = 0 := by
  induction l with
  | nil => rfl
  | cons x l ih => simp only [List.map_cons, AV.bndL, ih]; simp only [go_sem]
structure Ykind_cursor where
  s : List UInt8
  at_ : Int
  e_ : Int
  names : List (List UInt8)
  depth : Int
@[go_sem] def Ykind_cursor.cs (v : Ykind_cursor) : List AV := [.str v.s, .int .i64 v.at_, .int .i64 v.e_, .sl false 1 (List.map AV.str v.names), .int .i64 v.depth]
@[go_sem] def Ykind_cursor.av (v : Ykind_cursor) : AV := .agg (Ykind_cursor.cs v)
@[go_sem] theorem Ykind_cursor.bndL_map (l : List Ykind_cursor) : AV.bndL (l.map Ykind_cursor.av) = 0 := by
  induction l with
  | nil => rfl
  | cons x l ih => simp only [List.map_cons, AV.bndL, ih]; simp only [go_sem]
structure Ytcomp_writer where
  s : YSchema
  b_ : List UInt8
@[go_sem] def Ytcomp_writer.cs (v : Ytcomp_writer) : List AV := [.sl false 3 (List.map YSStruct.av v.s.structs), .sl false 2 (List.map YSEnum.av v.s.enums), .sl false 2 (List.map YSService.av v.s.services), .sl false 1 (List.map e8 v.b_)]
@[go_sem] def Ytcomp_writer.av (v : Ytcomp_writer) : AV := .agg (Ytcomp_writer.cs v)
@[go_sem] theorem Ytcomp_writer.bndL_map (l : List Ytcomp_writer) : AV.bndL (l.map Ytcomp_writer.av) = 0 := by
  induction l with
  | nil => rfl
  | cons x l ih => simp only [List.map_cons, AV.bndL, ih]; simp only [go_sem]
end Go.Proofs.YtfihinodhhhllaaGreat
