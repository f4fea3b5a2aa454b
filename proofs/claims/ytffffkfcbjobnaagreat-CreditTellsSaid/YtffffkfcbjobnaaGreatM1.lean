/- Walks by the logic of calls, and plain laws (several texts in one). -/
import Derived.Test.YtffffkfcbjobnaaGreatGh3
import Derived.Test.YtffffkfcbjobnaaGreatProg
import Derived.KernelRfl
import Derived.Shelf.Strings.Builder1
import Derived.Shelf.Strings.Builder2
import Derived.Shelf.Strings.OnBuilder
import Derived.Shelf.Strings.BuilderF
import Derived.Shelf.Strings.BuilderK
import Derived.Shelf.Strings.Builder2Cap
import Derived.Shelf.Strconv.Itoa0
import Derived.Shelf.Strconv.Itoa1
import Derived.Shelf.LaysM
import Derived.Shelf.Strconv.Itoa2
import Derived.Shelf.Strconv.Itoa3
import Derived.Shelf.GgClosure.StringsIndexFunc
import Derived.Ground.GgwProg
import Derived.Shelf.GgClosure.StringsIndexFuncTop
import Derived.Shelf.GgClosure.StringsRunes
import Derived.Shelf.Strings.FuncGrows
import Derived.Shelf.Strings.BuilderCap
import Derived.Shelf.Slices.Turned
import Derived.Test.YtffffkfcbjobnaaGreatProg
namespace Go.Gh
open Go Go.Proofs
abbrev i0:Value:= .int .i64 0
abbrev u0:Value:= .int .u8 0
abbrev s0:Value:= .string ⟨#[]⟩
abbrev n0:Value:= .slice none 0 0
abbrev b0:Value:= .bool false
abbrev f0 (n:String) (t i o:Nat):Field:= .mk n t i false "" "runtime" o
abbrev f1 (n:String) (t i o:Nat):Field:= .mk n t i false "" "" o
abbrev f2 (n:String) (t i o:Nat):Field:= .mk n t i false "" "allonge/credit" o
abbrev f3 (n:String) (t i o:Nat):Field:= .mk n t i false "" "allonge/require" o
abbrev f4 (n:String) (t i o:Nat):Field:= .mk n t i false "" "strings" o
abbrev f5 (n:String) (t i o:Nat):Field:= .mk n t i false "" "allonge/examine" o
def tab:Tab:=[
 (0,⟨.tuple #[],1,0,.tuple #[]⟩),
 (1,⟨.func #[] #[] false,1,8,.nilFunc⟩),
 (2,⟨.int .i64,1,8,i0⟩),
 (3,⟨.int .i64,1,8,i0⟩),
 (4,⟨.bool,1,1,b0⟩),
 (5,⟨.int .u8,1,1,u0⟩),
 (6,⟨.int .u8,1,1,u0⟩),
 (7,⟨.struct #[f0 "x" 2 0 0,f0 "y" 3 1 8,f0 "signed" 4 2 16,f0 "code" 6 3 17],4,24,.agg #[i0,i0,b0,u0]⟩),
 (8,⟨.struct #[f0 "x" 2 0 0,f0 "y" 3 1 8,f0 "signed" 4 2 16,f0 "code" 6 3 17],4,24,.agg #[i0,i0,b0,u0]⟩),
 (9,⟨.string,1,16,s0⟩),
 (10,⟨.string,1,16,s0⟩),
 (11,⟨.string,1,16,s0⟩),
 (12,⟨.int .u64,1,8,.int .u64 0⟩),
 (13,⟨.struct #[f0 "msg" 9 0 0,f0 "addr" 12 1 16],2,24,.agg #[s0,.int .u64 0]⟩),
 (14,⟨.struct #[f0 "msg" 9 0 0,f0 "addr" 12 1 16],2,24,.agg #[s0,.int .u64 0]⟩),
 (15,⟨.pointer 250,1,8,.pointer none⟩),
 (16,⟨.pointer 253,1,8,.pointer none⟩),
 (17,⟨.pointer 261,1,8,.pointer none⟩),
 (20,⟨.interface #[],1,16,.nilIface⟩),
 (21,⟨.int .i32,1,4,.int .i32 0⟩),
 (22,⟨.slice 9,1,24,n0⟩),
 (23,⟨.slice 103,1,24,n0⟩),
 (24,⟨.slice 105,1,24,n0⟩),
 (25,⟨.slice 107,1,24,n0⟩),
 (26,⟨.slice 111,1,24,n0⟩),
 (27,⟨.slice 168,1,24,n0⟩),
 (28,⟨.slice 170,1,24,n0⟩),
 (29,⟨.slice 172,1,24,n0⟩),
 (30,⟨.struct #[f1 "Currencies" 22 0 0,f1 "Cities" 23 1 24,f1 "Groups" 24 2 48,f1 "Firms" 25 3 72,f1 "Orders" 26 4 96,f1 "Usances" 27 5 120,f1 "Rates" 28 6 144,f1 "Halts" 29 7 168],8,192,.agg #[n0,n0,n0,n0,n0,n0,n0,n0]⟩),
 (31,⟨.struct #[f1 "Currencies" 22 0 0,f1 "Cities" 23 1 24,f1 "Groups" 24 2 48,f1 "Firms" 25 3 72,f1 "Orders" 26 4 96,f1 "Usances" 27 5 120,f1 "Rates" 28 6 144,f1 "Halts" 29 7 168],8,192,.agg #[n0,n0,n0,n0,n0,n0,n0,n0]⟩),
 (32,⟨.slice 37,1,24,n0⟩),
 (33,⟨.struct #[f1 "Applicant" 3 0 0,f1 "Issuer" 3 1 8,f1 "Confirmer" 3 2 16,f1 "Beneficiary" 3 3 24,f1 "Currency" 3 4 32,f1 "Sum" 3 5 40,f1 "Expiry" 3 6 48,f1 "City" 3 7 56,f1 "Partial" 4 8 64,f1 "Transfer" 4 9 65,f1 "Revolve" 3 10 72,f1 "Terms" 32 11 80],12,104,.agg #[i0,i0,i0,i0,i0,i0,i0,i0,b0,b0,i0,n0]⟩),
 (34,⟨.struct #[f1 "Applicant" 3 0 0,f1 "Issuer" 3 1 8,f1 "Confirmer" 3 2 16,f1 "Beneficiary" 3 3 24,f1 "Currency" 3 4 32,f1 "Sum" 3 5 40,f1 "Expiry" 3 6 48,f1 "City" 3 7 56,f1 "Partial" 4 8 64,f1 "Transfer" 4 9 65,f1 "Revolve" 3 10 72,f1 "Terms" 32 11 80],12,104,.agg #[i0,i0,i0,i0,i0,i0,i0,i0,b0,b0,i0,n0]⟩),
 (35,⟨.slice 57,1,24,n0⟩),
 (36,⟨.struct #[f1 "Op" 3 0 0,f1 "Doc" 9 1 8,f1 "Field" 9 2 24,f1 "Other" 9 3 40,f1 "Second" 9 4 56,f1 "Text" 9 5 72,f1 "Lo" 3 6 88,f1 "Hi" 3 7 96],8,104,.agg #[i0,s0,s0,s0,s0,s0,i0,i0]⟩),
 (37,⟨.struct #[f1 "Op" 3 0 0,f1 "Doc" 9 1 8,f1 "Field" 9 2 24,f1 "Other" 9 3 40,f1 "Second" 9 4 56,f1 "Text" 9 5 72,f1 "Lo" 3 6 88,f1 "Hi" 3 7 96],8,104,.agg #[i0,s0,s0,s0,s0,s0,i0,i0]⟩),
 (38,⟨.func #[] #[4] false,1,8,.nilFunc⟩),
 (39,⟨.func #[31,34,35] #[4] false,1,8,.nilFunc⟩),
 (40,⟨.slice 3,1,24,n0⟩),
 (41,⟨.struct #[f1 "Drawn" 3 0 0,f1 "Paid" 3 1 8,f1 "Left" 3 2 16,f1 "Moved" 3 3 24,f1 "Amended" 40 4 32,f1 "Second" 3 5 56],6,64,.agg #[i0,i0,i0,i0,n0,i0]⟩),
 (42,⟨.struct #[f1 "Drawn" 3 0 0,f1 "Paid" 3 1 8,f1 "Left" 3 2 16,f1 "Moved" 3 3 24,f1 "Amended" 40 4 32,f1 "Second" 3 5 56],6,64,.agg #[i0,i0,i0,i0,n0,i0]⟩),
 (43,⟨.slice 44,1,24,n0⟩),
 (44,⟨.int .i64,1,8,i0⟩),
 (45,⟨.tuple #[42,43,44],1,0,.tuple #[.agg #[i0,i0,i0,i0,n0,i0],n0,i0]⟩),
 (46,⟨.func #[31,34,35] #[42,43,44] false,1,8,.nilFunc⟩),
 (47,⟨.tuple #[32,44],1,0,.tuple #[n0,i0]⟩),
 (48,⟨.func #[31,34,35] #[32,44] false,1,8,.nilFunc⟩),
 (49,⟨.func #[42,42] #[4] false,1,8,.nilFunc⟩),
 (50,⟨.func #[43,43] #[4] false,1,8,.nilFunc⟩),
 (51,⟨.func #[32,32] #[4] false,1,8,.nilFunc⟩),
 (52,⟨.func #[37,37] #[4] false,1,8,.nilFunc⟩),
 (53,⟨.func #[31,34] #[44] false,1,8,.nilFunc⟩),
 (54,⟨.func #[31,34,35,37,37] #[4] false,1,8,.nilFunc⟩),
 (55,⟨.slice 116,1,24,n0⟩),
 (56,⟨.struct #[f1 "Kind" 3 0 0,f1 "Day" 3 1 8,f1 "By" 3 2 16,f1 "To" 3 3 24,f1 "Sum" 3 4 32,f1 "No" 3 5 40,f1 "Terms" 32 6 48,f1 "Docs" 55 7 72],8,96,.agg #[i0,i0,i0,i0,i0,i0,n0,n0]⟩),
 (57,⟨.struct #[f1 "Kind" 3 0 0,f1 "Day" 3 1 8,f1 "By" 3 2 16,f1 "To" 3 3 24,f1 "Sum" 3 4 32,f1 "No" 3 5 40,f1 "Terms" 32 6 48,f1 "Docs" 55 7 72],8,96,.agg #[i0,i0,i0,i0,i0,i0,n0,n0]⟩),
 (58,⟨.func #[31,34,35,5] #[4] false,1,8,.nilFunc⟩),
 (59,⟨.slice 94,1,24,n0⟩),
 (60,⟨.func #[32] #[4] false,1,8,.nilFunc⟩),
 (61,⟨.func #[59] #[4] false,1,8,.nilFunc⟩),
 (62,⟨.func #[37,59] #[4] false,1,8,.nilFunc⟩),
 (63,⟨.func #[32,59] #[40] false,1,8,.nilFunc⟩),
 (64,⟨.func #[32,32,59] #[4] false,1,8,.nilFunc⟩),
 (65,⟨.tuple #[3,44],1,0,.tuple #[i0,i0]⟩),
 (66,⟨.func #[55] #[3,44] false,1,8,.nilFunc⟩),
 (67,⟨.tuple #[59,44],1,0,.tuple #[n0,i0]⟩),
 (68,⟨.func #[55,3] #[59,44] false,1,8,.nilFunc⟩),
 (69,⟨.tuple #[31,34,35],1,0,.tuple #[.agg #[n0,n0,n0,n0,n0,n0,n0,n0],.agg #[i0,i0,i0,i0,i0,i0,i0,i0,b0,b0,i0,n0],n0]⟩),
 (70,⟨.func #[] #[31,34,35] false,1,8,.nilFunc⟩),
 (71,⟨.func #[9] #[32] false,1,8,.nilFunc⟩),
 (72,⟨.func #[31] #[4] false,1,8,.nilFunc⟩),
 (73,⟨.func #[32,55] #[4] false,1,8,.nilFunc⟩),
 (74,⟨.pointer 79,1,8,.pointer none⟩),
 (75,⟨.tuple #[74,43,44],1,0,.tuple #[.pointer none,n0,i0]⟩),
 (76,⟨.func #[31,34,35] #[74,43,44] false,1,8,.nilFunc⟩),
 (77,⟨.slice 194,1,24,n0⟩),
 (78,⟨.struct #[f2 "firms" 3 0 0,f2 "c" 34 1 8,f2 "terms" 32 13 112,f2 "l" 42 14 136,f2 "amendments" 77 20 200,f2 "confirmed" 4 21 224,f2 "restores" 3 22 232,f2 "day" 3 23 240],24,248,.agg #[i0,i0,i0,i0,i0,i0,i0,i0,i0,b0,b0,i0,n0,n0,i0,i0,i0,i0,n0,i0,n0,b0,i0,i0]⟩),
 (79,⟨.struct #[f2 "firms" 3 0 0,f2 "c" 34 1 8,f2 "terms" 32 13 112,f2 "l" 42 14 136,f2 "amendments" 77 20 200,f2 "confirmed" 4 21 224,f2 "restores" 3 22 232,f2 "day" 3 23 240],24,248,.agg #[i0,i0,i0,i0,i0,i0,i0,i0,i0,b0,b0,i0,n0,n0,i0,i0,i0,i0,n0,i0,n0,b0,i0,i0]⟩),
 (80,⟨.slice 199,1,24,n0⟩),
 (81,⟨.struct #[f1 "Terms" 32 0 0,f1 "L" 42 1 24,f1 "List" 80 7 88,f1 "Confirmed" 4 8 112,f1 "Restores" 3 9 120,f1 "Day" 3 10 128],11,136,.agg #[n0,i0,i0,i0,i0,n0,i0,n0,b0,i0,i0]⟩),
 (82,⟨.struct #[f1 "Terms" 32 0 0,f1 "L" 42 1 24,f1 "List" 80 7 88,f1 "Confirmed" 4 8 112,f1 "Restores" 3 9 120,f1 "Day" 3 10 128],11,136,.agg #[n0,i0,i0,i0,i0,n0,i0,n0,b0,i0,i0]⟩),
 (83,⟨.tuple #[82,43],1,0,.tuple #[.agg #[n0,i0,i0,i0,i0,n0,i0,n0,b0,i0,i0],n0]⟩),
 (84,⟨.func #[31,34,35] #[82,43] false,1,8,.nilFunc⟩),
 (85,⟨.func #[40,40] #[4] false,1,8,.nilFunc⟩),
 (86,⟨.tuple #[3,4],1,0,.tuple #[i0,b0]⟩),
 (87,⟨.func #[9] #[3,4] false,1,8,.nilFunc⟩),
 (88,⟨.func #[3,3,3] #[4] false,1,8,.nilFunc⟩),
 (89,⟨.func #[32,90] #[4] false,1,8,.nilFunc⟩),
 (90,⟨.func #[37] #[4] false,1,8,.nilFunc⟩),
 (91,⟨.func #[31] #[44] false,1,8,.nilFunc⟩),
 (92,⟨.func #[3,3] #[4] false,1,8,.nilFunc⟩),
 (93,⟨.struct #[f1 "Kind" 9 0 0,f1 "Names" 22 1 16,f1 "Texts" 22 2 40],3,64,.agg #[s0,n0,n0]⟩),
 (94,⟨.struct #[f1 "Kind" 9 0 0,f1 "Names" 22 1 16,f1 "Texts" 22 2 40],3,64,.agg #[s0,n0,n0]⟩),
 (95,⟨.interface #[("allonge/require.demand",173),("allonge/require.met",61),("allonge/require.named",38),("allonge/require.words",174)],1,16,.nilIface⟩),
 (96,⟨.interface #[("allonge/require.demand",173),("allonge/require.met",61),("allonge/require.named",38),("allonge/require.words",174)],1,16,.nilIface⟩),
 (97,⟨.tuple #[96,4],1,0,.tuple #[.nilIface,b0]⟩),
 (98,⟨.func #[37] #[96,4] false,1,8,.nilFunc⟩),
 (99,⟨.tuple #[40,3,44],1,0,.tuple #[n0,i0,i0]⟩),
 (100,⟨.func #[55] #[40,3,44] false,1,8,.nilFunc⟩),
 (101,⟨.func #[55,40,3] #[59] false,1,8,.nilFunc⟩),
 (102,⟨.struct #[f1 "Name" 9 0 0,f1 "Order" 3 1 16,f1 "Currency" 3 2 24,f1 "Rest" 40 3 32,f1 "Feasts" 40 4 56,f1 "Shut" 40 5 80],6,104,.agg #[s0,i0,i0,n0,n0,n0]⟩),
 (103,⟨.struct #[f1 "Name" 9 0 0,f1 "Order" 3 1 16,f1 "Currency" 3 2 24,f1 "Rest" 40 3 32,f1 "Feasts" 40 4 56,f1 "Shut" 40 5 80],6,104,.agg #[s0,i0,i0,n0,n0,n0]⟩),
 (104,⟨.struct #[f1 "Grade" 3 0 0],1,8,.agg #[i0]⟩),
 (105,⟨.struct #[f1 "Grade" 3 0 0],1,8,.agg #[i0]⟩),
 (106,⟨.struct #[f1 "Name" 9 0 0,f1 "City" 3 1 16,f1 "Group" 3 2 24],3,32,.agg #[s0,i0,i0]⟩),
 (107,⟨.struct #[f1 "Name" 9 0 0,f1 "City" 3 1 16,f1 "Group" 3 2 24],3,32,.agg #[s0,i0,i0]⟩),
 (108,⟨.slice 161,1,24,n0⟩),
 (109,⟨.slice 166,1,24,n0⟩),
 (110,⟨.struct #[f1 "Name" 9 0 0,f1 "Accepts" 4 1 16,f1 "Choices" 108 2 24,f1 "Rules" 109 3 48],4,72,.agg #[s0,b0,n0,n0]⟩),
 (111,⟨.struct #[f1 "Name" 9 0 0,f1 "Accepts" 4 1 16,f1 "Choices" 108 2 24,f1 "Rules" 109 3 48],4,72,.agg #[s0,b0,n0,n0]⟩),
 (112,⟨.func #[9] #[55] false,1,8,.nilFunc⟩),
 (113,⟨.func #[116] #[4] false,1,8,.nilFunc⟩),
 (114,⟨.slice 151,1,24,n0⟩),
 (115,⟨.struct #[f1 "Kind" 9 0 0,f1 "Fields" 114 1 16],2,40,.agg #[s0,n0]⟩),
 (116,⟨.struct #[f1 "Kind" 9 0 0,f1 "Fields" 114 1 16],2,40,.agg #[s0,n0]⟩),
 (117,⟨.tuple #[9,4],1,0,.tuple #[s0,b0]⟩),
 (118,⟨.func #[32] #[9,4] false,1,8,.nilFunc⟩),
 (119,⟨.func #[32] #[32] false,1,8,.nilFunc⟩),
 (120,⟨.func #[57] #[44] false,1,8,.nilFunc⟩),
 (121,⟨.func #[34] #[82] false,1,8,.nilFunc⟩),
 (122,⟨.tuple #[82,44],1,0,.tuple #[.agg #[n0,i0,i0,i0,i0,n0,i0,n0,b0,i0,i0],i0]⟩),
 (123,⟨.func #[31,34,82,57] #[82,44] false,1,8,.nilFunc⟩),
 (124,⟨.func #[9,125] #[3] false,1,8,.nilFunc⟩),
 (125,⟨.func #[5] #[4] false,1,8,.nilFunc⟩),
 (126,⟨.func #[32,90] #[3] false,1,8,.nilFunc⟩),
 (127,⟨.tuple #[22,22,22],1,0,.tuple #[n0,n0,n0]⟩),
 (128,⟨.func #[31] #[22,22,22] false,1,8,.nilFunc⟩),
 (129,⟨.func #[22,3,130] #[44] false,1,8,.nilFunc⟩),
 (130,⟨.func #[3] #[4] false,1,8,.nilFunc⟩),
 (131,⟨.func #[31,103] #[4] false,1,8,.nilFunc⟩),
 (132,⟨.func #[111] #[4] false,1,8,.nilFunc⟩),
 (133,⟨.struct #[f3 "doc" 9 0 0,f3 "field" 9 1 16],2,32,.agg #[s0,s0]⟩),
 (134,⟨.struct #[f3 "doc" 9 0 0,f3 "field" 9 1 16],2,32,.agg #[s0,s0]⟩),
 (135,⟨.struct #[f3 "doc" 9 0 0],1,16,.agg #[s0]⟩),
 (136,⟨.struct #[f3 "doc" 9 0 0],1,16,.agg #[s0]⟩),
 (137,⟨.struct #[f3 "at" 134 0 0,f3 "text" 9 2 32],3,48,.agg #[s0,s0,s0]⟩),
 (138,⟨.struct #[f3 "at" 134 0 0,f3 "text" 9 2 32],3,48,.agg #[s0,s0,s0]⟩),
 (139,⟨.struct #[f3 "at" 134 0 0,f3 "other" 134 2 32],4,64,.agg #[s0,s0,s0,s0]⟩),
 (140,⟨.struct #[f3 "at" 134 0 0,f3 "other" 134 2 32],4,64,.agg #[s0,s0,s0,s0]⟩),
 (141,⟨.struct #[f3 "at" 134 0 0,f3 "lo" 3 2 32,f3 "hi" 3 3 40,f3 "sum" 4 4 48],5,56,.agg #[s0,s0,i0,i0,b0]⟩),
 (142,⟨.struct #[f3 "at" 134 0 0,f3 "lo" 3 2 32,f3 "hi" 3 3 40,f3 "sum" 4 4 48],5,56,.agg #[s0,s0,i0,i0,b0]⟩),
 (143,⟨.func #[116] #[44] false,1,8,.nilFunc⟩),
 (144,⟨.func #[116] #[3,44] false,1,8,.nilFunc⟩),
 (145,⟨.tuple #[94,44],1,0,.tuple #[.agg #[s0,n0,n0],i0]⟩),
 (146,⟨.func #[116,3] #[94,44] false,1,8,.nilFunc⟩),
 (147,⟨.struct #[f1 "Spellings" 22 0 0],1,24,.agg #[n0]⟩),
 (148,⟨.struct #[f1 "Spellings" 22 0 0],1,24,.agg #[n0]⟩),
 (149,⟨.slice 148,1,24,n0⟩),
 (150,⟨.struct #[f1 "Name" 9 0 0,f1 "Words" 149 1 16],2,40,.agg #[s0,n0]⟩),
 (151,⟨.struct #[f1 "Name" 9 0 0,f1 "Words" 149 1 16],2,40,.agg #[s0,n0]⟩),
 (152,⟨.slice 187,1,24,n0⟩),
 (153,⟨.func #[37] #[152] false,1,8,.nilFunc⟩),
 (154,⟨.func #[152] #[9] false,1,8,.nilFunc⟩),
 (155,⟨.func #[74,57] #[44] false,1,8,.nilFunc⟩),
 (156,⟨.array 7 155,7,56,.agg #[.nilFunc,.nilFunc,.nilFunc,.nilFunc,.nilFunc,.nilFunc,.nilFunc]⟩),
 (157,⟨.func #[34,82,57] #[82,44] false,1,8,.nilFunc⟩),
 (158,⟨.func #[22,3] #[44] false,1,8,.nilFunc⟩),
 (159,⟨.func #[40,3,3] #[4] false,1,8,.nilFunc⟩),
 (160,⟨.struct #[f1 "Ask" 3 0 0,f1 "By" 3 1 8,f1 "Whole" 4 2 16],3,24,.agg #[i0,i0,b0]⟩),
 (161,⟨.struct #[f1 "Ask" 3 0 0,f1 "By" 3 1 8,f1 "Whole" 4 2 16],3,24,.agg #[i0,i0,b0]⟩),
 (162,⟨.slice 164,1,24,n0⟩),
 (163,⟨.struct #[f1 "Op" 3 0 0,f1 "N" 3 1 8,f1 "Args" 162 2 16],3,40,.agg #[i0,i0,n0]⟩),
 (164,⟨.struct #[f1 "Op" 3 0 0,f1 "N" 3 1 8,f1 "Args" 162 2 16],3,40,.agg #[i0,i0,n0]⟩),
 (165,⟨.struct #[f1 "Ask" 3 0 0,f1 "Term" 164 1 8],4,48,.agg #[i0,i0,i0,n0]⟩),
 (166,⟨.struct #[f1 "Ask" 3 0 0,f1 "Term" 164 1 8],4,48,.agg #[i0,i0,i0,n0]⟩),
 (167,⟨.struct #[f1 "From" 3 0 0,f1 "To" 3 1 8,f1 "Days" 3 2 16],3,24,.agg #[i0,i0,i0]⟩),
 (168,⟨.struct #[f1 "From" 3 0 0,f1 "To" 3 1 8,f1 "Days" 3 2 16],3,24,.agg #[i0,i0,i0]⟩),
 (169,⟨.struct #[f1 "From" 3 0 0,f1 "To" 3 1 8,f1 "Num" 3 2 16,f1 "Den" 3 3 24,f1 "Since" 3 4 32],5,40,.agg #[i0,i0,i0,i0,i0]⟩),
 (170,⟨.struct #[f1 "From" 3 0 0,f1 "To" 3 1 8,f1 "Num" 3 2 16,f1 "Den" 3 3 24,f1 "Since" 3 4 32],5,40,.agg #[i0,i0,i0,i0,i0]⟩),
 (171,⟨.struct #[f1 "Order" 3 0 0,f1 "From" 3 1 8,f1 "To" 3 2 16],3,24,.agg #[i0,i0,i0]⟩),
 (172,⟨.struct #[f1 "Order" 3 0 0,f1 "From" 3 1 8,f1 "To" 3 2 16],3,24,.agg #[i0,i0,i0]⟩),
 (173,⟨.func #[] #[37] false,1,8,.nilFunc⟩),
 (174,⟨.func #[] #[9] false,1,8,.nilFunc⟩),
 (175,⟨.func #[22,9] #[9] false,1,8,.nilFunc⟩),
 (176,⟨.func #[9] #[4] false,1,8,.nilFunc⟩),
 (177,⟨.func #[114,178] #[4] false,1,8,.nilFunc⟩),
 (178,⟨.func #[151] #[4] false,1,8,.nilFunc⟩),
 (179,⟨.func #[148] #[44] false,1,8,.nilFunc⟩),
 (180,⟨.func #[151] #[3] false,1,8,.nilFunc⟩),
 (181,⟨.func #[213] #[] false,1,8,.nilFunc⟩),
 (182,⟨.func #[213] #[] false,1,8,.nilFunc⟩),
 (183,⟨.func #[114] #[182] false,1,8,.nilFunc⟩),
 (184,⟨.func #[151,3] #[9] false,1,8,.nilFunc⟩),
 (185,⟨.func #[22] #[44] false,1,8,.nilFunc⟩),
 (186,⟨.struct #[f1 "Kind" 3 0 0,f1 "Text" 9 1 8,f1 "N" 3 2 24,f1 "Pos" 3 3 32],4,40,.agg #[i0,s0,i0,i0]⟩),
 (187,⟨.struct #[f1 "Kind" 3 0 0,f1 "Text" 9 1 8,f1 "N" 3 2 24,f1 "Pos" 3 3 32],4,40,.agg #[i0,s0,i0,i0]⟩),
 (188,⟨.func #[9] #[187] false,1,8,.nilFunc⟩),
 (189,⟨.func #[3] #[9] false,1,8,.nilFunc⟩),
 (190,⟨.func #[9] #[9] false,1,8,.nilFunc⟩),
 (191,⟨.pointer 3,1,8,.pointer none⟩),
 (192,⟨.func #[77,195] #[3] false,1,8,.nilFunc⟩),
 (193,⟨.struct #[f2 "terms" 32 0 0,f2 "sum" 3 1 24,f2 "pending" 4 2 32],3,40,.agg #[n0,i0,b0]⟩),
 (194,⟨.struct #[f2 "terms" 32 0 0,f2 "sum" 3 1 24,f2 "pending" 4 2 32],3,40,.agg #[n0,i0,b0]⟩),
 (195,⟨.func #[194] #[4] false,1,8,.nilFunc⟩),
 (196,⟨.func #[3] #[] false,1,8,.nilFunc⟩),
 (197,⟨.func #[34,3,3] #[4] false,1,8,.nilFunc⟩),
 (198,⟨.struct #[f1 "Terms" 32 0 0,f1 "Sum" 3 1 24,f1 "State" 3 2 32],3,40,.agg #[n0,i0,i0]⟩),
 (199,⟨.struct #[f1 "Terms" 32 0 0,f1 "Sum" 3 1 24,f1 "State" 3 2 32],3,40,.agg #[n0,i0,i0]⟩),
 (200,⟨.func #[82,3,4] #[82] false,1,8,.nilFunc⟩),
 (201,⟨.func #[22,9] #[4] false,1,8,.nilFunc⟩),
 (202,⟨.pointer 205,1,8,.pointer none⟩),
 (203,⟨.slice 5,1,24,n0⟩),
 (204,⟨.struct #[f4 "addr" 202 0 0,f4 "buf" 203 1 8],2,32,.agg #[.pointer none,n0]⟩),
 (205,⟨.struct #[f4 "addr" 202 0 0,f4 "buf" 203 1 8],2,32,.agg #[.pointer none,n0]⟩),
 (206,⟨.interface #[("Error",174)],1,16,.nilIface⟩),
 (207,⟨.interface #[("Error",174)],1,16,.nilIface⟩),
 (208,⟨.tuple #[3,207],1,0,.tuple #[i0,.nilIface]⟩),
 (209,⟨.func #[9] #[3,207] false,1,8,.nilFunc⟩),
 (210,⟨.func #[22,3,9] #[4] false,1,8,.nilFunc⟩),
 (211,⟨.func #[114,178] #[3] false,1,8,.nilFunc⟩),
 (212,⟨.func #[22,176] #[4] false,1,8,.nilFunc⟩),
 (213,⟨.func #[3,151] #[4] false,1,8,.nilFunc⟩),
 (214,⟨.array 8 9,8,128,.agg #[s0,s0,s0,s0,s0,s0,s0,s0]⟩),
 (215,⟨.func #[32,55] #[3,44] false,1,8,.nilFunc⟩),
 (216,⟨.pointer 194,1,8,.pointer none⟩),
 (217,⟨.func #[22,9] #[3] false,1,8,.nilFunc⟩),
 (218,⟨.pointer 5,1,8,.pointer none⟩),
 (219,⟨.func #[22,176] #[3] false,1,8,.nilFunc⟩),
 (220,⟨.func #[9,221] #[3] false,1,8,.nilFunc⟩),
 (221,⟨.func #[21] #[4] false,1,8,.nilFunc⟩),
 (222,⟨.slice 223,1,24,n0⟩),
 (223,⟨.int .u64,1,8,.int .u64 0⟩),
 (224,⟨.struct #[f5 "sets" 222 0 0,f5 "never" 223 1 24,f5 "doubtful" 223 2 32],3,40,.agg #[n0,.int .u64 0,.int .u64 0]⟩),
 (225,⟨.struct #[f5 "sets" 222 0 0,f5 "never" 223 1 24,f5 "doubtful" 223 2 32],3,40,.agg #[n0,.int .u64 0,.int .u64 0]⟩),
 (226,⟨.tuple #[225,44],1,0,.tuple #[.agg #[n0,.int .u64 0,.int .u64 0],i0]⟩),
 (227,⟨.func #[32,55] #[225,44] false,1,8,.nilFunc⟩),
 (228,⟨.func #[222,223] #[4] false,1,8,.nilFunc⟩),
 (229,⟨.func #[32,55] #[44] false,1,8,.nilFunc⟩),
 (230,⟨.func #[32,55,3] #[40] false,1,8,.nilFunc⟩),
 (232,⟨.func #[231] #[231] false,1,8,.nilFunc⟩),
 (233,⟨.func #[3] #[203] false,1,8,.nilFunc⟩),
 (234,⟨.func #[9,221,4] #[3] false,1,8,.nilFunc⟩),
 (235,⟨.map 223 4,1,8,.map none⟩),
 (236,⟨.func #[243] #[] false,1,8,.nilFunc⟩),
 (237,⟨.func #[243] #[] false,1,8,.nilFunc⟩),
 (238,⟨.func #[32,55,40,3] #[237] false,1,8,.nilFunc⟩),
 (239,⟨.func #[223] #[3] false,1,8,.nilFunc⟩),
 (240,⟨.func #[222,223] #[3] false,1,8,.nilFunc⟩),
 (241,⟨.func #[3] #[3] false,1,8,.nilFunc⟩),
 (242,⟨.func #[40,3] #[3] false,1,8,.nilFunc⟩),
 (243,⟨.func #[223] #[4] false,1,8,.nilFunc⟩),
 (244,⟨.func #[245] #[3] false,1,8,.nilFunc⟩),
 (245,⟨.int .u32,1,4,.int .u32 0⟩),
 (246,⟨.func #[247] #[3] false,1,8,.nilFunc⟩),
 (247,⟨.int .u64,1,8,.int .u64 0⟩),
 (248,⟨.func #[94,9] #[3] false,1,8,.nilFunc⟩),
 (249,⟨.struct #[f0 "_interface" 17 0 0,f0 "concrete" 17 1 8,f0 "asserted" 17 2 16,f0 "missingMethod" 9 3 24],4,40,.agg #[.pointer none,.pointer none,.pointer none,s0]⟩),
 (250,⟨.struct #[f0 "_interface" 17 0 0,f0 "concrete" 17 1 8,f0 "asserted" 17 2 16,f0 "missingMethod" 9 3 24],4,40,.agg #[.pointer none,.pointer none,.pointer none,s0]⟩),
 (251,⟨.array 0 16,0,0,.agg #[]⟩),
 (252,⟨.struct #[f0 "_" 251 0 0],0,0,.agg #[]⟩),
 (253,⟨.struct #[f0 "_" 251 0 0],0,0,.agg #[]⟩),
 (254,⟨.func #[] #[3] false,1,8,.nilFunc⟩),
 (255,⟨.int .u8,1,1,u0⟩),
 (256,⟨.int .u8,1,1,u0⟩),
 (257,⟨.func #[231,231] #[4] false,1,8,.nilFunc⟩),
 (258,⟨.int .i32,1,4,.int .i32 0⟩),
 (259,⟨.int .i32,1,4,.int .i32 0⟩),
 (260,⟨.struct #[f1 "Size_" 12 0 0,f1 "PtrBytes" 12 1 8,f1 "Hash" 245 2 16,f1 "TFlag" 255 3 20,f1 "Align_" 5 4 21,f1 "FieldAlign_" 5 5 22,f1 "Kind_" 256 6 23,f1 "Equal" 257 7 24,f1 "GCData" 218 8 32,f1 "Str" 258 9 40,f1 "PtrToThis" 259 10 44],11,48,.agg #[.int .u64 0,.int .u64 0,.int .u32 0,u0,u0,u0,u0,.nilFunc,.pointer none,.int .i32 0,.int .i32 0]⟩),
 (261,⟨.struct #[f1 "Size_" 12 0 0,f1 "PtrBytes" 12 1 8,f1 "Hash" 245 2 16,f1 "TFlag" 255 3 20,f1 "Align_" 5 4 21,f1 "FieldAlign_" 5 5 22,f1 "Kind_" 256 6 23,f1 "Equal" 257 7 24,f1 "GCData" 218 8 32,f1 "Str" 258 9 40,f1 "PtrToThis" 259 10 44],11,48,.agg #[.int .u64 0,.int .u64 0,.int .u32 0,u0,u0,u0,u0,.nilFunc,.pointer none,.int .i32 0,.int .i32 0]⟩),
 (262,⟨.func #[59,9] #[4] false,1,8,.nilFunc⟩),
 (263,⟨.func #[59,264] #[4] false,1,8,.nilFunc⟩),
 (264,⟨.func #[94] #[4] false,1,8,.nilFunc⟩),
 (265,⟨.func #[59,264] #[3] false,1,8,.nilFunc⟩),
 (266,⟨.tuple #[22,4],1,0,.tuple #[n0,b0]⟩),
 (267,⟨.func #[59,134] #[22,4] false,1,8,.nilFunc⟩),
 (268,⟨.func #[9] #[9,4] false,1,8,.nilFunc⟩),
 (269,⟨.func #[5] #[207] false,1,8,.nilFunc⟩),
 (270,⟨.func #[2,3] #[9] false,1,8,.nilFunc⟩),
 (271,⟨.array 24 5,24,24,.agg (Array.mk (List.replicate 24 u0))⟩),
 (272,⟨.func #[203,247] #[] false,1,8,.nilFunc⟩),
 (273,⟨.tuple #[203,9],1,0,.tuple #[n0,s0]⟩),
 (274,⟨.func #[203,247,3,4,4] #[203,9] false,1,8,.nilFunc⟩),
 (275,⟨.func #[4] #[3] false,1,8,.nilFunc⟩),
 (276,⟨.array 20 247,20,160,.agg #[.int .u64 0,.int .u64 0,.int .u64 0,.int .u64 0,.int .u64 0,.int .u64 0,.int .u64 0,.int .u64 0,.int .u64 0,.int .u64 0,.int .u64 0,.int .u64 0,.int .u64 0,.int .u64 0,.int .u64 0,.int .u64 0,.int .u64 0,.int .u64 0,.int .u64 0,.int .u64 0]⟩),
 (277,⟨.array 65 5,65,65,.agg (List.toArray (List.append [u0,u0,u0,u0,u0,u0,u0,u0,u0,u0,u0,u0,u0,u0,u0,u0,u0,u0,u0,u0,u0,u0,u0,u0,u0,u0,u0,u0,u0,u0,u0,u0] [u0,u0,u0,u0,u0,u0,u0,u0,u0,u0,u0,u0,u0,u0,u0,u0,u0,u0,u0,u0,u0,u0,u0,u0,u0,u0,u0,u0,u0,u0,u0,u0,u0]))⟩),
 (278,⟨.array 32 5,32,32,.agg (Array.mk (List.replicate 32 u0))⟩),
 (279,⟨.array 64 5,64,64,.agg (Array.mk (List.replicate 64 u0))⟩),
 (280,⟨.func #[] #[281] false,1,8,.nilFunc⟩),
 (281,⟨.slice 40,1,24,n0⟩)]
instance seatLaid:Laid:=⟨[]⟩
theorem tab_ok:TabOK Tryz.prog tab:=by
 unfold tab
 repeat (first|exact TabOK.nil _|refine TabOK.cons ⟨by kernel_rfl,by kernel_rfl⟩ ?_)
theorem env:Env Tryz.prog tab:=⟨tab_ok,by kernel_rfl⟩
end Go.Gh
namespace Go.Gh
open Go Go.Proofs
set_option maxRecDepth 1000000
set_option maxHeartbeats 2000000
set_option linter.unusedSimpArgs false
set_option linter.unusedVariables false
set_option linter.unnecessarySimpa false
def letter (c:Int):Bool:=decide (97≤c)&&decide (c≤122)||decide (65≤c)&&decide (c≤90)
def digit (c:Int):Bool:=decide (48≤c)&&decide (c≤57)
def inner (c:Int):Bool:=letter c||digit c||decide (c=95)
def span (p:Int→Bool) (s:ByteArray) (i:Nat):Int:=if i<s.size then if p (byteAt s i)then span p s (i+1)else i else i
termination_by s.size-i
def numVal (s:ByteArray) (i:Nat) (n:Int):Int:=if i<s.size then numVal s (i+1) (10*n+(byteAt s i-48))else n
termination_by s.size-i
def numBad (s:ByteArray):Bool:=decide (s=⟨#[]⟩)|| !decide (span digit s 0=s.size)||decide (byteAt s 0=48)&& !decide (s=⟨#[48]⟩)||decide ((13:Int)<s.size)
def numV (s:ByteArray):Int:=if numBad s then 0 else if 1099511627776<numVal s 0 0 then 0 else numVal s 0 0
def numOk (s:ByteArray):Bool:= !numBad s&& !decide (1099511627776<numVal s 0 0)
theorem span_digit (s:ByteArray):∀(k i:Nat),s.size-i=k→span digit s i=s.size→∀j,i≤j→j<s.size→digit (byteAt s j)=true:=by
 intro k
 induction k with
 |zero=>intro i h _ j h1 h2;omega
 |succ k ih=>
  intro i h hs j h1 h2
  rw[span,if_pos (by omega)]at hs
  split at hs
  ·rename_i hd
   by_cases e:j=i
   ·subst e;exact hd
   ·exact ih (i+1) (by omega) hs j (by omega) h2
  ·omega
theorem numBad_at {s:ByteArray} (h:numBad s=false):span digit s 0=s.size∧s.size≤13:=by
 simp[numBad]at h
 exact ⟨h.1.1.2,by omega⟩
theorem digit_of {s:ByteArray} (h:numBad s=false) {i:Nat} (hi:i<s.size):48≤byteAt s i∧byteAt s i≤57:=by
 have:=span_digit s _ 0 rfl (numBad_at h).1 i (Nat.zero_le _) hi
 simpa [digit]using this
theorem pow_le {s:ByteArray} (h:numBad s=false) {i:Nat} (hi:i≤s.size):(10:Int)^i≤10^13:=by
 have:=Nat.pow_le_pow_right (n:=10) (by omega) (show i≤13 by have:=(numBad_at h).2;omega)
 exact_mod_cast this
def nameOk (s:ByteArray):Bool:= !decide (s=⟨#[]⟩)&&letter (byteAt s 0)&&decide ((s.size:Int)≤20)&&decide (span inner s 0=s.size)
theorem letter_ok (c:Int):GC Tryz.prog 138 [cG c] (bG (letter c)):=by
 refine gc_of_gk Tryz.func138 ?_
 refine gk_region env false [] [0,2] ?_
 refine gk_region env false [] [2] ?_
 refine gk_ret env ?_
 simp[letter,tupG,Bool.or_assoc]
theorem digit_ok (c:Int):GC Tryz.prog 58 [cG c] (bG (digit c)):=by
 refine gc_of_gk Tryz.func58 ?_
 refine gk_region env false [] [0,2] ?_
 refine gk_region env false [] [2] ?_
 refine gk_ret env ?_
 simp[digit,tupG]
theorem inner_ok (c:Int):GC Tryz.prog 139 [cG c] (bG (inner c)):=by
 refine gc_of_gk Tryz.func139 ?_
 refine gk_region env false [] [0,2] ?_
 refine gk_region env false [.call (letter_ok c),.call (digit_ok c)] [2] ?_
 refine gk_ret env ?_
 simp[inner,tupG]
theorem spanI_ok (s:ByteArray) (hs:s.size≤9223372036854775807):GC Tryz.prog 57 [sG s,fG 139] (iG (span inner s 0)):=by
 refine gc_of_gk Tryz.func57 ?_
 refine gk_region env false [] [0,1,4] ?_
 refine gk_region env false [] [0,1,4,5] ?_
 refine gk_loop (α:=Nat) (fun i=>i≤s.size∧span inner s 0=span inner s i) (fun i=>[(5,iG i)]) (fun _=>[]) (fun i=>s.size-i) 0 ⟨by omega,rfl⟩ ?_
 rintro i ⟨hi,he⟩
 refine gk_region env false [.call (inner_ok (byteAt s i))] [0,1,4,5,16] ?_
 refine gk_if (fun c1=> ?_) (fun c1=> ?_)
 ·try simp only[bb,toN]at c1
  refine gk_region env false [] [0,1,4,5] ?_
  refine gk_round (i+1) ?_
  refine ⟨by omega,he.trans ?_⟩
  rw[span,if_pos (by omega),if_pos c1.2]
 ·try simp only[bb,toN]at c1
  refine gk_region env false [] [4] ?_
  refine gk_ret env ?_
  rw[he,span]
  rcases c1 with h|h
  ·rw[if_neg (by omega)];rfl
  ·rw[h];simp[tupG]
theorem spanD_ok (s:ByteArray) (hs:s.size≤9223372036854775807):GC Tryz.prog 57 [sG s,fG 58] (iG (span digit s 0)):=by
 refine gc_of_gk Tryz.func57 ?_
 refine gk_region env false [] [0,1,4] ?_
 refine gk_region env false [] [0,1,4,5] ?_
 refine gk_loop (α:=Nat) (fun i=>i≤s.size∧span digit s 0=span digit s i) (fun i=>[(5,iG i)]) (fun _=>[]) (fun i=>s.size-i) 0 ⟨by omega,rfl⟩ ?_
 rintro i ⟨hi,he⟩
 refine gk_region env false [.call (digit_ok (byteAt s i))] [0,1,4,5,16] ?_
 refine gk_if (fun c1=> ?_) (fun c1=> ?_)
 ·try simp only[bb,toN]at c1
  refine gk_region env false [] [0,1,4,5] ?_
  refine gk_round (i+1) ?_
  refine ⟨by omega,he.trans ?_⟩
  rw[span,if_pos (by omega),if_pos c1.2]
 ·try simp only[bb,toN]at c1
  refine gk_region env false [] [4] ?_
  refine gk_ret env ?_
  rw[he,span]
  rcases c1 with h|h
  ·rw[if_neg (by omega)];rfl
  ·rw[h];simp[tupG]
theorem name_ok (s:ByteArray) (hs:s.size≤9223372036854775807):GC Tryz.prog 106 [sG s] (bG (nameOk s)):=by
 refine gc_of_gk Tryz.func106 ?_
 refine gk_region env false [] [0,2] ?_
 refine gk_region env false [.call (letter_ok _),.call (spanI_ok s hs)] [2] ?_
 refine gk_ret env ?_
 simp[nameOk,tupG]
theorem number_ok (s:ByteArray) (hs:s.size≤9223372036854775807):GC Tryz.prog 37 [sG s] (.tup [iG (numV s),bG (numOk s)]):=by
 obtain ⟨V,hV⟩:∃V,V=numV s:=⟨_,rfl⟩
 obtain ⟨O,hO⟩:∃O,O=numOk s:=⟨_,rfl⟩
 rw[←hV,←hO]
 unfold numV at hV
 unfold numOk at hO
 refine gc_of_gk Tryz.func37 ?_
 refine gk_region env false [] [0,2,3] ?_
 refine gk_region env false [.call (spanD_ok s hs)] [0,2,3,28] ?_
 refine gk_if (fun c1=> ?_) (fun c1=> ?_)
 ·try simp only[bb,toN]at c1
  refine gk_region env false [] [0,2,3] ?_
  refine gk_ret env ?_
  rw[hV,hO,show numBad s=true by simpa [numBad]using c1];rfl
 ·try simp only[bb,toN]at c1
  refine gk_region env false [] [0,2,3,4] ?_
  refine gk_region env false [] [0,2,3,4,30,31] ?_
  refine gk_loop (α:=Nat×Int) (fun x=>x.1≤s.size∧numVal s 0 0=numVal s x.1 x.2∧0≤x.2∧x.2+1≤10^x.1) (fun x=>[(31,iG x.1),(4,iG x.2)]) (fun _=>[]) (fun x=>s.size-x.1) (0,0) ⟨by simp,rfl,by simp,by simp⟩ ?_
  rintro ⟨i,n⟩ ⟨hi,hn,h0,h1⟩
  dsimp only at*
  have hb:numBad s=false:=by simpa [numBad,and_assoc,Decidable.imp_iff_not_or]using c1
  have hp:(10:Int)^i≤10^13:=pow_le hb hi
  have hdg:=fun h=>digit_of hb (i:=i) h
  refine gk_region env false [] [0,2,3,4,30,31,32] ?_
  refine gk_ifd (fun c2=> ?_) (fun c2=> ?_)
  ·try simp only[toN]at c2
   refine gk_region env false [] [0,2,3,4,5,30,31] ?_
   have hd:=hdg (by omega)
   refine gk_region env false [] [0,2,3,4,30,31] ?_
   refine gk_region env false [] [0,2,3,4,30,31] ?_
   refine gk_round ((i+1,10*n+(byteAt s i-48))) ?_
   refine ⟨by simp only;omega,?_,?_,?_⟩
   ·rw[hn,numVal,if_pos (by omega)]
   ·have:=hdg (by omega);dsimp only;omega
   ·have:=hdg (by omega);dsimp only;rw[Int.pow_succ];omega
  ·try simp only[toN]at c2
   refine gk_region env false [] [2,3,4,44] ?_
   refine gk_ifd (fun c3=> ?_) (fun c3=> ?_)
   ·try simp only[toN]at c3
    refine gk_region env false [] [2,3,4] ?_
    refine gk_ret env ?_
    have e:numVal s i n=n:=by rw[numVal,if_neg (by omega)]
    simp[hV,hO,hb,hn,e,c3,tupG]
   ·try simp only[toN]at c3
    refine gk_region env false [] [2,3] ?_
    refine gk_ret env ?_
    have e:numVal s i n=n:=by rw[numVal,if_neg (by omega)]
    simp[hV,hO,hb,hn,e,c3,tupG]
end Go.Gh
namespace Go.Proofs
open Go.Shelf
def Tryz.lays169_ren:Go.Shelf.Ren:=⟨fun|169=>134|n=>n,fun|70=>202|9=>9|0=>0|72=>205|37=>203|127=>218|3=>3|5=>5|n=>n,fun|n=>n⟩
theorem Tryz.lays169:Go.Proofs.Lays.n169 Tryz.prog Tryz.lays169_ren:= {
 mixed:=by kernel_rfl
 f169:=Tryz.func134.trans (congrArg some (by kernel_rfl))
 t0:=Tryz.underlying0
 a0:=Tryz.isAgg0
 z0:=Tryz.sizeOf0
 v0:=Tryz.zeroValue0
 t3:=Tryz.underlying3
 a3:=Tryz.isAgg3
 z3:=Tryz.sizeOf3
 v3:=Tryz.zeroValue3
 t9:=Tryz.underlying9
 a9:=Tryz.isAgg9
 z9:=Tryz.sizeOf9
 v9:=Tryz.zeroValue9
 t37:=Tryz.underlying203
 a37:=Tryz.isAgg203
 z37:=Tryz.sizeOf203
 v37:=Tryz.zeroValue203
 t70:=Tryz.underlying202
 a70:=Tryz.isAgg202
 z70:=Tryz.sizeOf202
 v70:=Tryz.zeroValue202
 t72:=Tryz.underlying205
 a72:=Tryz.isAgg205
 z72:=Tryz.sizeOf205
 v72:=Tryz.zeroValue205
 t127:=Tryz.underlying218
 a127:=Tryz.isAgg218
 z127:=Tryz.sizeOf218
 v127:=Tryz.zeroValue218}
theorem Tryz.Builder_Extra_169:Builder.Extra Tryz.prog Tryz.lays169_ren:= {
 sizeBuilder:=by kernel_rfl
 liesBuilder:=by kernel_rfl
 t5:=Tryz.underlying5
 a5:=Tryz.isAgg5
 z5:=Tryz.sizeOf5
 v5:=Tryz.zeroValue5
 infoByte:=by kernel_rfl
 cellsByte:=by kernel_rfl
 sizeByte:=by kernel_rfl
 neB5:=by decide}
open Go.RowKit in
theorem Tryz.Builder_String_any (B b:Nat) (l:List UInt8) (w:World) (h:Lib.IsBuilder 205 5 B b (Lib.byteCells l) w) (hBw:B≤w.heap.size):
 Calls Tryz.prog 134 #[.pointer (some ⟨b,0,none⟩)] w fun e w'=>e= .returned (.string ⟨l.toArray⟩)∧Below B w w':=Any.Builder_String_any Tryz.lays169 Tryz.Builder_Extra_169 B b l w h hBw
def Tryz.lays156_ren:Go.Shelf.Ren:=⟨fun|156=>101|165=>132|166=>133|169=>134|240=>150|241=>151|276=>160|277=>161|n=>n,fun|31=>22|9=>9|3=>3|4=>4|0=>0|20=>20|72=>205|76=>208|70=>202|37=>203|75=>207|127=>218|164=>231|5=>5|80=>174|n=>n,fun|n=>n⟩
theorem Tryz.lays156:Go.Proofs.Lays.n156 Tryz.prog Tryz.lays156_ren:= {
 mixed:=by kernel_rfl
 f156:=Tryz.func101.trans (congrArg some (by kernel_rfl))
 f165:=Tryz.func132.trans (congrArg some (by kernel_rfl))
 f166:=Tryz.func133.trans (congrArg some (by kernel_rfl))
 f169:=Tryz.func134.trans (congrArg some (by kernel_rfl))
 f240:=Tryz.func150.trans (congrArg some (by kernel_rfl))
 f241:=Tryz.func151.trans (congrArg some (by kernel_rfl))
 f276:=Tryz.func160.trans (congrArg some (by kernel_rfl))
 f277:=Tryz.func161.trans (congrArg some (by kernel_rfl))
 t0:=Tryz.underlying0
 a0:=Tryz.isAgg0
 z0:=Tryz.sizeOf0
 v0:=Tryz.zeroValue0
 t3:=Tryz.underlying3
 a3:=Tryz.isAgg3
 z3:=Tryz.sizeOf3
 v3:=Tryz.zeroValue3
 t4:=Tryz.underlying4
 a4:=Tryz.isAgg4
 z4:=Tryz.sizeOf4
 v4:=Tryz.zeroValue4
 t9:=Tryz.underlying9
 a9:=Tryz.isAgg9
 z9:=Tryz.sizeOf9
 v9:=Tryz.zeroValue9
 t20:=Tryz.underlying20
 a20:=Tryz.isAgg20
 z20:=Tryz.sizeOf20
 v20:=Tryz.zeroValue20
 t31:=Tryz.underlying22
 a31:=Tryz.isAgg22
 z31:=Tryz.sizeOf22
 v31:=Tryz.zeroValue22
 t37:=Tryz.underlying203
 a37:=Tryz.isAgg203
 z37:=Tryz.sizeOf203
 v37:=Tryz.zeroValue203
 t70:=Tryz.underlying202
 a70:=Tryz.isAgg202
 z70:=Tryz.sizeOf202
 v70:=Tryz.zeroValue202
 t72:=Tryz.underlying205
 a72:=Tryz.isAgg205
 z72:=Tryz.sizeOf205
 v72:=Tryz.zeroValue205
 t75:=Tryz.underlying207
 a75:=Tryz.isAgg207
 z75:=Tryz.sizeOf207
 v75:=Tryz.zeroValue207
 t76:=Tryz.underlying208
 a76:=Tryz.isAgg208
 z76:=Tryz.sizeOf208
 v76:=Tryz.zeroValue208
 t127:=Tryz.underlying218
 a127:=Tryz.isAgg218
 z127:=Tryz.sizeOf218
 v127:=Tryz.zeroValue218
 t164:=Tryz.underlying231
 a164:=Tryz.isAgg231
 z164:=Tryz.sizeOf231
 v164:=Tryz.zeroValue231}
theorem Tryz.Builder_Extra_156:Builder.Extra Tryz.prog Tryz.lays156_ren:= {
 sizeBuilder:=by kernel_rfl
 liesBuilder:=by kernel_rfl
 t5:=Tryz.underlying5
 a5:=Tryz.isAgg5
 z5:=Tryz.sizeOf5
 v5:=Tryz.zeroValue5
 infoByte:=by kernel_rfl
 cellsByte:=by kernel_rfl
 sizeByte:=by kernel_rfl
 neB5:=by decide}
open Go.RowKit in
theorem Tryz.strings_Join_none (a:Option Addr) (c:Nat) (sep:ByteArray) (w:World):
 Calls Tryz.prog 101 #[.slice a 0 c,.string sep] w fun e w'=>e= .returned (.string ⟨#[]⟩)∧w'=w:=Any.strings_Join_none Tryz.lays156 Tryz.Builder_Extra_156 a c sep w
open Go.RowKit in
theorem Tryz.strings_Join (bk o c:Nat) (xs:List ByteArray) (sep:ByteArray) (w:World) (hcells:∀(j:Nat) x,xs[j]? =some x→w.cell? ⟨bk,o+j,none⟩=some (.string x)) (hbk:bk<w.heap.size) (hN:xs.length≤140737488355328) (hcap:xs.length≤c) (hlen:(Lib.join (xs.map (·.data.toList)) sep.data.toList).length≤140737488355328):
 Calls Tryz.prog 101 #[.slice (some ⟨bk,o,none⟩) xs.length c,.string sep] w fun e w'=>e= .returned (.string ⟨(Lib.join (xs.map (·.data.toList)) sep.data.toList).toArray⟩)∧Below w.heap.size w w':=Any.strings_Join Tryz.lays156 Tryz.Builder_Extra_156 bk o c xs sep w hcells hbk hN hcap hlen
def Tryz.lays129_ren:Go.Shelf.Ren:=⟨fun|129=>230|n=>n,fun|53=>247|3=>3|4=>4|46=>223|5=>5|9=>9|n=>n,fun|n=>n⟩
theorem Tryz.lays129:Go.Proofs.Lays.n129 Tryz.prog Tryz.lays129_ren:= {
 mixed:=by kernel_rfl
 f129:=Tryz.func230.trans (congrArg some (by kernel_rfl))
 t3:=Tryz.underlying3
 a3:=Tryz.isAgg3
 z3:=Tryz.sizeOf3
 v3:=Tryz.zeroValue3
 t4:=Tryz.underlying4
 a4:=Tryz.isAgg4
 z4:=Tryz.sizeOf4
 v4:=Tryz.zeroValue4
 t5:=Tryz.underlying5
 a5:=Tryz.isAgg5
 z5:=Tryz.sizeOf5
 v5:=Tryz.zeroValue5
 t9:=Tryz.underlying9
 a9:=Tryz.isAgg9
 z9:=Tryz.sizeOf9
 v9:=Tryz.zeroValue9
 t46:=Tryz.underlying223
 a46:=Tryz.isAgg223
 z46:=Tryz.sizeOf223
 v46:=Tryz.zeroValue223
 t53:=Tryz.underlying247
 a53:=Tryz.isAgg247
 z53:=Tryz.sizeOf247
 v53:=Tryz.zeroValue247}
theorem Tryz.bits_Len64 (x:Int) (w:World) (h0:0≤x) (h1:x≤18446744073709551615):
 Calls Tryz.prog 230 #[.int .u64 x] w fun e w'=>e= .returned (.int .i64 (Lib.bitLen x.toNat))∧w'=w:=Any.bits_Len64 Tryz.lays129 x w h0 h1
def Tryz.lays317_ren:Go.Shelf.Ren:=⟨fun|317=>229|n=>n,fun|3=>3|46=>223|n=>n,fun|n=>n⟩
theorem Tryz.lays317:Go.Proofs.Lays.n317 Tryz.prog Tryz.lays317_ren:= {
 mixed:=by kernel_rfl
 f317:=Tryz.func229.trans (congrArg some (by kernel_rfl))
 t3:=Tryz.underlying3
 a3:=Tryz.isAgg3
 z3:=Tryz.sizeOf3
 v3:=Tryz.zeroValue3
 t46:=Tryz.underlying223
 a46:=Tryz.isAgg223
 z46:=Tryz.sizeOf223
 v46:=Tryz.zeroValue223}
open Go.Lib in
theorem Tryz.internal_strconv_log10Pow2 (x:Nat) (h:x≤64) (w:World):
 Calls Tryz.prog 229 #[.int .i64 x] w fun e w'=>e= .returned (.int .i64 (Lib.l10 x))∧w'=w:=Any.internal_strconv_log10Pow2 Tryz.lays317 x h w
def Tryz.lays318_ren:Go.Shelf.Ren:=⟨fun|318=>231|n=>n,fun|3=>3|4=>4|n=>n,fun|n=>n⟩
theorem Tryz.lays318:Go.Proofs.Lays.n318 Tryz.prog Tryz.lays318_ren:= {
 mixed:=by kernel_rfl
 f318:=Tryz.func231.trans (congrArg some (by kernel_rfl))
 t3:=Tryz.underlying3
 a3:=Tryz.isAgg3
 z3:=Tryz.sizeOf3
 v3:=Tryz.zeroValue3
 t4:=Tryz.underlying4
 a4:=Tryz.isAgg4
 z4:=Tryz.sizeOf4
 v4:=Tryz.zeroValue4}
open Go.Lib in
theorem Tryz.internal_strconv_bool2_int (b:Bool) (w:World):
 Calls Tryz.prog 231 #[.bool b] w fun e w'=>e= .returned (.int .i64 (if b then 1 else 0))∧w'=w:=Any.internal_strconv_bool2_int Tryz.lays318 b w
def Tryz.laysM246_ren:Go.Shelf.Ren:=⟨fun|246=>224|283=>225|284=>226|285=>227|286=>228|129=>230|317=>229|318=>231|319=>232|320=>233|337=>234|338=>235|n=>n,fun|2=>2|3=>3|9=>9|4=>4|171=>271|0=>0|53=>247|37=>203|5=>5|173=>273|212=>276|51=>245|20=>20|213=>277|46=>223|232=>278|233=>279|n=>n,fun|17=>1|18=>2|19=>3|n=>n⟩
def Tryz.lays246_ren:Go.Shelf.Ren:=⟨fun|246=>224|283=>225|284=>226|285=>227|286=>228|129=>230|317=>229|318=>231|319=>232|320=>233|337=>234|338=>235|n=>n,fun|2=>2|3=>3|9=>9|4=>4|171=>271|0=>0|53=>247|37=>203|5=>5|173=>273|212=>276|51=>245|20=>20|213=>277|46=>223|232=>278|233=>279|n=>n,fun|17=>1|18=>2|19=>3|n=>n⟩
theorem Tryz.lays246:Go.Proofs.Lays.n246 Tryz.prog Tryz.lays246_ren:= {
 mixed:=by kernel_rfl
 f129:=Tryz.func230.trans (congrArg some (by kernel_rfl))
 f246:=Tryz.func224.trans (congrArg some (by kernel_rfl))
 f283:=Tryz.func225.trans (congrArg some (by kernel_rfl))
 f284:=Tryz.func226.trans (congrArg some (by kernel_rfl))
 f285:=Tryz.func227.trans (congrArg some (by kernel_rfl))
 f286:=Tryz.func228.trans (congrArg some (by kernel_rfl))
 f317:=Tryz.func229.trans (congrArg some (by kernel_rfl))
 f318:=Tryz.func231.trans (congrArg some (by kernel_rfl))
 f319:=Tryz.func232.trans (congrArg some (by kernel_rfl))
 f320:=Tryz.func233.trans (congrArg some (by kernel_rfl))
 f337:=Tryz.func234.trans (congrArg some (by kernel_rfl))
 f338:=Tryz.func235.trans (congrArg some (by kernel_rfl))
 t0:=Tryz.underlying0
 a0:=Tryz.isAgg0
 z0:=Tryz.sizeOf0
 v0:=Tryz.zeroValue0
 t2:=Tryz.underlying2
 a2:=Tryz.isAgg2
 z2:=Tryz.sizeOf2
 v2:=Tryz.zeroValue2
 t3:=Tryz.underlying3
 a3:=Tryz.isAgg3
 z3:=Tryz.sizeOf3
 v3:=Tryz.zeroValue3
 t4:=Tryz.underlying4
 a4:=Tryz.isAgg4
 z4:=Tryz.sizeOf4
 v4:=Tryz.zeroValue4
 t5:=Tryz.underlying5
 a5:=Tryz.isAgg5
 z5:=Tryz.sizeOf5
 v5:=Tryz.zeroValue5
 t9:=Tryz.underlying9
 a9:=Tryz.isAgg9
 z9:=Tryz.sizeOf9
 v9:=Tryz.zeroValue9
 t20:=Tryz.underlying20
 a20:=Tryz.isAgg20
 z20:=Tryz.sizeOf20
 v20:=Tryz.zeroValue20
 t37:=Tryz.underlying203
 a37:=Tryz.isAgg203
 z37:=Tryz.sizeOf203
 v37:=Tryz.zeroValue203
 t46:=Tryz.underlying223
 a46:=Tryz.isAgg223
 z46:=Tryz.sizeOf223
 v46:=Tryz.zeroValue223
 t51:=Tryz.underlying245
 a51:=Tryz.isAgg245
 z51:=Tryz.sizeOf245
 v51:=Tryz.zeroValue245
 t53:=Tryz.underlying247
 a53:=Tryz.isAgg247
 z53:=Tryz.sizeOf247
 v53:=Tryz.zeroValue247
 t171:=Tryz.underlying271
 a171:=Tryz.isAgg271
 z171:=Tryz.sizeOf271
 v171:=Tryz.zeroValue271
 t173:=Tryz.underlying273
 a173:=Tryz.isAgg273
 z173:=Tryz.sizeOf273
 v173:=Tryz.zeroValue273
 t212:=Tryz.underlying276
 a212:=Tryz.isAgg276
 z212:=Tryz.sizeOf276
 v212:=Tryz.zeroValue276
 t213:=Tryz.underlying277
 a213:=Tryz.isAgg277
 z213:=Tryz.sizeOf277
 t232:=Tryz.underlying278
 a232:=Tryz.isAgg278
 z232:=Tryz.sizeOf278
 v232:=Tryz.zeroValue278
 t233:=Tryz.underlying279
 a233:=Tryz.isAgg279
 z233:=Tryz.sizeOf279
 v233:=Tryz.zeroValue279
 g17:=by kernel_rfl
 g18:=by kernel_rfl
 g19:=by kernel_rfl}
open Go.RowKit Go.Sort Go.Lib in
theorem Tryz.internal_strconv_FormatInt_10_small (i:Nat) (hi:i<100) (w:World):
 Calls Tryz.prog 224 #[.int .i64 i,.int .i64 10] w fun e w'=>e= .returned (.string ⟨(Lib.decDigits i).toArray⟩)∧w'=w:=Any.internal_strconv_FormatInt_10_small Tryz.lays246 i hi w
def Tryz.laysGw15_ren:Go.Shelf.Ren:=⟨fun|15=>154|20=>162|n=>n,fun|9=>9|23=>221|3=>3|4=>4|0=>0|21=>21|n=>n,fun|n=>n⟩
theorem Tryz.laysGw15:Go.Proofs.LaysGw.n15 Tryz.prog Tryz.laysGw15_ren:= {
 mixed:=by kernel_rfl
 f15:=Tryz.func154.trans (congrArg some (by kernel_rfl))
 f20:=Tryz.func162.trans (congrArg some (by kernel_rfl))
 t0:=Tryz.underlying0
 a0:=Tryz.isAgg0
 z0:=Tryz.sizeOf0
 v0:=Tryz.zeroValue0
 i0:=by kernel_rfl
 t3:=Tryz.underlying3
 a3:=Tryz.isAgg3
 z3:=Tryz.sizeOf3
 v3:=Tryz.zeroValue3
 i3:=by kernel_rfl
 t4:=Tryz.underlying4
 a4:=Tryz.isAgg4
 z4:=Tryz.sizeOf4
 v4:=Tryz.zeroValue4
 i4:=by kernel_rfl
 t9:=Tryz.underlying9
 a9:=Tryz.isAgg9
 z9:=Tryz.sizeOf9
 v9:=Tryz.zeroValue9
 i9:=by kernel_rfl
 t21:=Tryz.underlying21
 a21:=Tryz.isAgg21
 z21:=Tryz.sizeOf21
 v21:=Tryz.zeroValue21
 i21:=by kernel_rfl
 t23:=Tryz.underlying221
 a23:=Tryz.isAgg221
 z23:=Tryz.sizeOf221
 v23:=Tryz.zeroValue221
 i23:=by kernel_rfl}
open Go.RowKit Go.Lib in
theorem Tryz.strings_IndexFunc_grows (g:Nat) (lb:Array Value) (eg:∀args w,(callFunc g args).run Tryz.prog w= .ok (.enter g args) w) (p:Nat→Bool) (s:ByteArray) (w:World) (hp:PredGrows Tryz.prog g lb p w):
 Calls Tryz.prog 154 #[.string s,.func (.func g) #[] lb] w fun e w'=>e= .returned (.int .i64 (Lib.idxFunc p true s))∧Below w.heap.size w w':=Any.strings_IndexFunc_grows Tryz.laysGw15 g lb eg p s w hp
end Go.Proofs
namespace Go.Gh
open Go Go.Proofs
set_option maxRecDepth 1000000
set_option maxHeartbeats 2000000
set_option linter.unusedSimpArgs false
set_option linter.unusedVariables false
set_option linter.unnecessarySimpa false
open Go.RowKit
def bs (s:ByteArray):List UInt8:=s.data.toList
instance :Inhabited ByteArray:=⟨⟨#[]⟩⟩
def strC (s:ByteArray):List D:=[.sc (.string s)]
abbrev rowS (l:List ByteArray):G:= .d (.row default strC l)
abbrev rowSD (l:List ByteArray):D:= .row default strC l
def wdC (w:List ByteArray):List D:=[rowSD w]
abbrev wdG (w:List ByteArray):G:= .agg [rowS w]
structure Fl where
 name:ByteArray
 words:List (List ByteArray)
deriving DecidableEq
instance :Inhabited Fl:=⟨⟨⟨#[]⟩,[]⟩⟩
def flC (f:Fl):List D:=[.sc (.string f.name),.row default wdC f.words]
abbrev flG (f:Fl):G:= .agg [sG f.name,.d (.row default wdC f.words)]
structure Dc where
 kind:ByteArray
 fields:List Fl
deriving DecidableEq
instance :Inhabited Dc:=⟨⟨⟨#[]⟩,[]⟩⟩
abbrev dcG (d:Dc):G:= .agg [sG d.kind,.d (.row default flC d.fields)]
structure FitF (f:Fl):Prop where
 name:f.name.size≤1000
 words:f.words.length≤1000
 sp:∀w,w∈f.words→w.length≤1000
 str:∀w,w∈f.words→∀s,s∈w→s.size≤1000
structure Fit (d:Dc):Prop where
 kind:d.kind.size≤1000
 fields:d.fields.length≤1000
 each:∀f,f∈d.fields→FitF f
theorem getD_mem {α:Type} [Inhabited α] {l:List α} {i:Nat} (h:i<l.length):l.getD i default∈l:=by
 rw[List.getD_eq_getElem?_getD,List.getElem?_eq_getElem h];exact List.getElem_mem h
theorem Fit.at_ {d:Dc} (h:Fit d) {i:Nat} (hi:i<d.fields.length):FitF (d.fields.getD i default):=h.each _ (getD_mem hi)
theorem FitF.at_ {f:Fl} (h:FitF f) {i:Nat} (hi:i<f.words.length):(f.words.getD i default).length≤1000∧∀s,s∈f.words.getD i default→s.size≤1000:=⟨h.sp _ (getD_mem hi),h.str _ (getD_mem hi)⟩
def findI {α:Type} [Inhabited α] (p:α→Bool) (l:List α) (i:Nat):Int:=if i<l.length then if p (l.getD i default)then i else findI p l (i+1)else-1
termination_by l.length-i
theorem findI_range {α:Type} [Inhabited α] (p:α→Bool) (l:List α):∀(k i:Nat),l.length-i=k→(findI p l i= -1∧∀j,i≤j→j<l.length→p (l.getD j default)=false)∨∃j,i≤j∧j<l.length∧findI p l i=j∧p (l.getD j default)=true∧∀m,i≤m→m<j→p (l.getD m default)=false:=by
 intro k
 induction k with
 |zero=>intro i h;left;rw[findI,if_neg (by omega)];exact ⟨rfl,fun j h1 h2=>by omega⟩
 |succ k ih=>
  intro i h
  rw[findI,if_pos (by omega)]
  cases hp:p (l.getD i default)with
  |true=>right;rw[if_pos rfl];exact ⟨i,Nat.le_refl _,by omega,rfl,hp,fun m h1 h2=>by omega⟩
  |false=>
   rw[if_neg (by simp)]
   rcases ih (i+1) (by omega)with ⟨h1,h2⟩|⟨j,h1,h2,h3,h4,h5⟩
   ·exact .inl ⟨h1,fun j h3 h4=>by
     by_cases e:j=i
     ·subst e;exact hp
     ·exact h2 j (by omega) h4⟩
   ·exact .inr ⟨j,by omega,h2,h3,h4,fun m h6 h7=>by
     by_cases e:m=i
     ·subst e;exact hp
     ·exact h5 m (by omega) h7⟩
theorem findI_any {α:Type} [Inhabited α] (p:α→Bool) (l:List α):decide (0≤findI p l 0)=l.any p:=by
 rcases findI_range p l _ 0 rfl with ⟨h1,h2⟩|⟨j,h1,h2,h3,h4,h5⟩
 ·rw[h1]
  symm
  rw[show decide ((0:Int)≤-1)=false from rfl,List.any_eq_false]
  intro x hx
  obtain ⟨j,hj⟩:=List.getElem?_of_mem hx
  have hlt:=(List.getElem?_eq_some_iff.1 hj).1
  have:=h2 j (by omega) hlt
  rw[List.getD_eq_getElem?_getD,hj]at this
  simpa using this
 ·rw[h3]
  symm
  rw[show decide ((0:Int)≤(j:Int))=true from decide_eq_true (by omega),List.any_eq_true]
  exact ⟨l.getD j default,getD_mem h2,h4⟩
theorem empty_iff (s:ByteArray):s=⟨#[]⟩↔s.size=0:=by
 constructor
 ·intro h;rw[h];rfl
 ·intro h
  refine Classical.byContradiction fun hn=> ?_
  have:=size_pos hn
  omega
theorem inner_not {c:Int} (h1:letter c=false) (h2:digit c=false) (h3:¬c=95):inner c=false:=by simp[inner,h1,h2,h3]
theorem inner_on {c:Int} (h:(letter c=true∨digit c=true)∨c=95):inner c=true:=by
 rcases h with (h|h)|h<;>simp[inner,h]
theorem span_stop {p:Int→Bool} {s:ByteArray} {i:Nat} (hi:i<s.size) (he:span p s 0=span p s i) (hp:p (byteAt s i)=false):¬span p s 0=s.size:=by
 rw[he,span,if_pos hi,if_neg (by simp[hp])];omega
def okB (c:UInt8):Bool:=decide (33≤c.toNat)&&decide (c.toNat≤126)
def badR (c:Nat):Bool:=decide (c<33)||decide (126<c)
def validS (s:ByteArray):Bool:= !decide (s=⟨#[]⟩)&&decide ((s.size:Int)≤20)&&(bs s).all okB
theorem idx_all (s:ByteArray):decide (Lib.idxFunc badR true s<0)=(bs s).all okB:=by
 have key:∀(f pos:Nat),s.size≤pos+f→decide (Lib.idxFuncFrom badR true s f pos<0)=((bs s).drop pos).all okB:=by
  intro f
  induction f with
  |zero=>
   intro pos h
   rw[List.drop_eq_nil_of_le (by show s.data.toList.length≤pos;rw[Array.length_toList];exact h)]
   rfl
  |succ f ih=>
   intro pos h
   by_cases hp:pos<s.size
   ·have hl:pos<(bs s).length:=by show pos<s.data.toList.length;rw[Array.length_toList];exact hp
    have hd:(bs s).drop pos=s[pos]'hp::(bs s).drop (pos+1):=by rw[List.drop_eq_getElem_cons hl];rfl
    rw[hd,List.all_cons]
    unfold Lib.idxFuncFrom
    rw[if_pos hp]
    by_cases ha:(s[pos]'hp).toNat<128
    ·rw[decode_ascii s pos hp ha]
     by_cases hb:badR (s[pos]'hp).toNat=true
     ·rw[if_pos hb]
      have:okB (s[pos]'hp)=false:=by simp[badR]at hb;simp[okB];omega
      rw[this,Bool.false_and]
      exact decide_eq_false (by omega)
     ·rw[if_neg hb,ih (pos+1) (by omega)]
      have:okB (s[pos]'hp)=true:=by simp[badR]at hb;simp[okB];omega
      rw[this,Bool.true_and]
    ·have h2:=decode_high s pos hp (by omega)
     have hb:badR (Utf8.decode s pos).1=true:=by simp[badR];omega
     rw[if_pos hb]
     have:okB (s[pos]'hp)=false:=by simp[okB];omega
     rw[this,Bool.false_and]
     exact decide_eq_false (by omega)
   ·rw[Lib.idxFuncFrom_end _ _ _ _ _ hp,List.drop_eq_nil_of_le (by show s.data.toList.length≤pos;rw[Array.length_toList];show s.size≤pos;omega)]
    rfl
 exact key s.size 0 (by omega)
theorem valid1_ok (c:Int):GC Tryz.prog 155 [.d (.sc (.int .i32 c))] (bG (decide (c<33)||decide (126<c))):=by
 refine gc_of_gk Tryz.func155 ?_
 refine gk_region env false [] [0,2] ?_
 refine gk_region env false [] [2] ?_
 refine gk_ret env ?_
 simp[tupG]
theorem indexR_ok (s:ByteArray):GC Tryz.prog 154 [sG s,fG 155] (iG (Lib.idxFunc badR true s)):=
 gc_of_old Tryz.func154 rfl rfl rfl rfl fun w=>Tryz.strings_IndexFunc_grows 155 #[] (fun args w=>by
  have h:=Tryz.func155
  simp[callFunc,h,go_sem,Tryz.f155]) badR s w fun W x hx _=>by
  have h:=GC.ends (valid1_ok (x:Int)) (W:=W) (vs:= #[.int .i32 (x:Int)]) (hv:=VRs.cons (.d (.sc _ rfl)) VRs.nil)
  have e:(decide ((x:Int)<33)||decide (126<(x:Int)))=badR x:=by
   unfold badR;congr 1<;>exact decide_eq_decide.2 (by omega)
  rw[e]at h
  exact h
theorem valid_ok (s:ByteArray) (hs:s.size≤9223372036854775807):GC Tryz.prog 143 [sG s] (bG (validS s)):=by
 refine gc_of_gk Tryz.func143 ?_
 refine gk_region env false [] [0,2] ?_
 refine gk_region env false [.call (indexR_ok s)] [2] ?_
 refine gk_ret env ?_
 simp[validS,←idx_all,tupG,Bool.and_assoc]
theorem word1_ok (s:ByteArray) (hs:s.size≤9223372036854775807):GC Tryz.prog 142 [sG s] (bG (!validS s)):=by
 refine gc_of_gk Tryz.func142 ?_
 refine gk_region env false [] [0,2] ?_
 refine gk_region env false [.call (valid_ok s hs)] [2] ?_
 refine gk_ret env ?_
 simp[tupG]
theorem indexS_ok (l:List ByteArray) (hl:l.length≤9223372036854775807) (s:ByteArray):GC Tryz.prog 149 [rowS l,sG s] (iG (findI (fun x=>decide (x=s)) l 0)):=by
 refine gc_of_gk Tryz.func149 ?_
 refine gk_region env false [] [0,1,4] ?_
 refine gk_region env false [] [0,1,4,7,8] ?_
 refine gk_loop (α:=Nat) (fun i=>i≤l.length∧findI (fun x=>decide (x=s)) l 0=findI (fun x=>decide (x=s)) l i) (fun i=>[(8,iG i)]) (fun _=>[]) (fun i=>l.length-i) 0 ⟨by omega,rfl⟩ ?_
 rintro i ⟨hi,he⟩
 refine gk_region env false [] [0,1,4,7,8,9] ?_
 refine gk_ifd (fun c1=> ?_) (fun c1=> ?_)
 ·try simp only[toN]at c1
  refine gk_region env false [] [0,1,4,5,7,8] ?_
  refine gk_region env false [] [0,1,4,5,7,8,16] ?_
  refine gk_ifd (fun c2=> ?_) (fun c2=> ?_)
  ·try simp only[toN]at c2
   refine gk_region env false [] [0,1,4,7,8] ?_
   refine gk_ret env ?_
   rw[he,findI,if_pos (by omega),if_pos (by simpa using c2.symm)];rfl
  ·try simp only[toN]at c2
   refine gk_region env false [] [0,1,4,7,8] ?_
   refine gk_round (i+1) ?_
   refine ⟨by omega,he.trans ?_⟩
   rw[findI,if_pos (by omega),if_neg (by simpa using fun e=>c2 e.symm)]
 ·try simp only[toN]at c1
  refine gk_region env false [] [4] ?_
  refine gk_ret env ?_
  rw[he,findI,if_neg (by omega)];rfl
theorem contains_ok (l:List ByteArray) (hl:l.length≤9223372036854775807) (s:ByteArray):GC Tryz.prog 131 [rowS l,sG s] (bG (l.any fun x=>decide (x=s))):=by
 refine gc_of_gk Tryz.func131 ?_
 refine gk_region env false [] [0,1,4] ?_
 refine gk_region env false [.call (indexS_ok l hl s)] [4] ?_
 refine gk_ret env ?_
 rw[←findI_any];rfl
theorem indexW_ok (l:List ByteArray) (hl:l.length≤9223372036854775807) (hs:∀s,s∈l→s.size≤9223372036854775807):GC Tryz.prog 153 [rowS l,fG 142] (iG (findI (fun x=> !validS x) l 0)):=by
 refine gc_of_gk Tryz.func153 ?_
 refine gk_region env false [] [0,1,4] ?_
 refine gk_region env false [] [0,1,4,7,8] ?_
 refine gk_loop (α:=Nat) (fun i=>i≤l.length∧findI (fun x=> !validS x) l 0=findI (fun x=> !validS x) l i) (fun i=>[(8,iG i)]) (fun _=>[]) (fun i=>l.length-i) 0 ⟨by omega,rfl⟩ ?_ (hp:=by simp[AllP]<;>rfl)
 rintro i ⟨hi,he⟩
 refine gk_region env false [] [0,1,4,7,8,9] ?_
 refine gk_ifd (fun c1=> ?_) (fun c1=> ?_)
 ·try simp only[toN]at c1
  refine gk_region env false [] [0,1,4,5,7,8] ?_
  refine gk_region env false [.call (word1_ok (l.getD i default) (hs _ (getD_mem (by omega))))] [0,1,4,5,7,8,16] ?_
  refine gk_if (fun c2=> ?_) (fun c2=> ?_)
  ·try simp only[bb,toN]at c2
   refine gk_region env false [] [0,1,4,7,8] ?_
   refine gk_ret env ?_
   rw[he,findI,if_pos (by omega),if_pos (by simpa using c2)];rfl
  ·try simp only[bb,toN]at c2
   refine gk_region env false [] [0,1,4,7,8] ?_
   refine gk_round (i+1) ?_ (hp:=by simp[AllP]<;>rfl)
   refine ⟨by omega,he.trans ?_⟩
   rw[findI,if_pos (by omega),if_neg (by simpa using c2)]
 ·try simp only[toN]at c1
  refine gk_region env false [] [4] ?_
  refine gk_ret env ?_
  rw[he,findI,if_neg (by omega)];rfl
theorem hasW_ok (l:List ByteArray) (hl:l.length≤9223372036854775807) (hs:∀s,s∈l→s.size≤9223372036854775807):GC Tryz.prog 141 [rowS l,fG 142] (bG (l.any fun x=> !validS x)):=by
 refine gc_of_gk Tryz.func141 ?_
 refine gk_region env false [] [0,1,4] ?_
 refine gk_region env false [.call (indexW_ok l hl hs)] [4] ?_
 refine gk_ret env ?_
 rw[←findI_any];rfl
def dupW (l:List ByteArray) (i:Nat):Bool:=if i<l.length then if (l.take i).any fun x=>decide (x=l.getD i default)then true else dupW l (i+1)else false
termination_by l.length-i
def wordE (l:List ByteArray):Int:=if 4<l.length then 6 else if l.length=0 then 4 else if l.any fun x=> !validS x then 2 else if dupW l 0 then 5 else 0
def wordsE (ws:List (List ByteArray)) (k:Nat):Int:=if k<ws.length then if wordE (ws.getD k default)=0 then wordsE ws (k+1)else wordE (ws.getD k default)else 0
termination_by ws.length-k
def fieldE (fs:List Fl) (i:Nat):Int:=if nameOk (fs.getD i default).name=false then 2 else if (fs.take i).any fun g=>decide (g.name=(fs.getD i default).name)then 5 else if 8<(fs.getD i default).words.length then 6 else wordsE (fs.getD i default).words 0
def fieldsE (fs:List Fl) (i:Nat):Int:=if i<fs.length then if fieldE fs i=0 then fieldsE fs (i+1)else fieldE fs i else 0
termination_by fs.length-i
def checkE (d:Dc):Int:=if nameOk d.kind=false then 2 else if 12<d.fields.length then 6 else fieldsE d.fields 0
theorem word_ok (l:List ByteArray) (hl:l.length≤1000) (hs:∀s,s∈l→s.size≤1000):GC Tryz.prog 109 [wdG l] (iG (wordE l)):=by
 refine gc_of_gk Tryz.func109 ?_
 refine gk_region env false [] [1,2] ?_
 refine gk_region env false [] [2,3] ?_
 refine gk_region env false [] [2,3,7] ?_
 refine gk_ifd (fun c1=> ?_) (fun c1=> ?_)
 ·try simp only[toN]at c1
  refine gk_region env false [] [2,3] ?_
  refine gk_ret env ?_
  rw[wordE,if_pos (by omega)];rfl
 ·try simp only[toN]at c1
  refine gk_region env false [] [2,3,11] ?_
  refine gk_ifd (fun c2=> ?_) (fun c2=> ?_)
  ·try simp only[toN]at c2
   refine gk_region env false [] [2,3] ?_
   refine gk_ret env ?_
   rw[wordE,if_neg (by omega),if_pos (by omega)];rfl
  ·try simp only[toN]at c2
   refine gk_region env false [.call (hasW_ok l (by omega) (fun s h=>by have:=hs s h;omega))] [2,3,15] ?_
   refine gk_if (fun c3=> ?_) (fun c3=> ?_)
   ·try simp only[bb,toN]at c3
    refine gk_region env false [] [2,3] ?_
    refine gk_ret env ?_
    rw[wordE,if_neg (by omega),if_neg (by omega),if_pos (by simpa using c3)];rfl
   ·try simp only[bb,toN]at c3
    refine gk_region env false [] [2,3,19,20] ?_
    refine gk_loop (α:=Nat) (fun i=>i≤l.length∧dupW l 0=dupW l i) (fun i=>[(20,iG i)]) (fun _=>[]) (fun i=>l.length-i) 0 ⟨by omega,rfl⟩ ?_
    rintro i ⟨hi,he⟩
    refine gk_region env false [] [2,3,19,20,21] ?_
    refine gk_ifd (fun c4=> ?_) (fun c4=> ?_)
    ·try simp only[toN]at c4
     refine gk_region env false [] [2,3,4,19,20] ?_
     refine gk_region env false [.call (contains_ok (l.take i) (by simp;omega) (l.getD i default))] [2,3,19,20,30] ?_ (hp:=(by simp only[AllP,bb,toN,loI,hiI];repeat' first|exact trivial|exact EntL.refl _|exact BEntL.refl _|exact rfl|omega|apply And.intro|intro _))
     refine gk_if (fun c5=> ?_) (fun c5=> ?_)
     ·try simp only[bb,toN]at c5
      refine gk_region env false [] [2,3,19,20] ?_
      refine gk_ret env ?_
      have e:dupW l 0=true:=by rw[he,dupW,if_pos (by omega),if_pos (by simpa using c5)]
      rw[wordE,if_neg (by omega),if_neg (by omega),if_neg (by simpa using c3),if_pos e];rfl
     ·try simp only[bb,toN]at c5
      refine gk_region env false [] [2,3,19,20] ?_
      refine gk_round (i+1) ?_
      refine ⟨by omega,he.trans ?_⟩
      rw[dupW,if_pos (by omega),if_neg (by rw[c5];simp)]
    ·try simp only[toN]at c4
     refine gk_region env false [] [2] ?_
     refine gk_ret env ?_
     have e:dupW l 0=false:=by rw[he,dupW,if_neg (by omega)]
     rw[wordE,if_neg (by omega),if_neg (by omega),if_neg (by simpa using c3),if_neg (by simp[e])];rfl
theorem check1_ok (g:Fl) (f:Fl):GC Tryz.prog 108 [flG g,.ep (flC f)] (bG (decide (g.name=f.name))):=by
 refine gc_of_gk Tryz.func108 ?_
 refine gk_region env false [] [1,2,3] ?_
 refine gk_region env false [] [3] ?_
 refine gk_ret env ?_
 rfl
theorem indexF_ok (l:List Fl) (hl:l.length≤9223372036854775807) (f:Fl):GC Tryz.prog 140 [.d (.row default flC l),.fn (.func 108) [] [.ep (flC f)]] (iG (findI (fun g=>decide (g.name=f.name)) l 0)):=by
 refine gc_of_gk Tryz.func140 ?_
 refine gk_region env false [] [0,1,4] ?_
 refine gk_region env false [] [0,1,4,7,8] ?_
 refine gk_loop (α:=Nat) (fun i=>i≤l.length∧findI (fun g=>decide (g.name=f.name)) l 0=findI (fun g=>decide (g.name=f.name)) l i) (fun i=>[(8,iG i)]) (fun _=>[]) (fun i=>l.length-i) 0 ⟨by omega,rfl⟩ ?_ (hp:=by simp[AllP]<;>rfl)
 rintro i ⟨hi,he⟩
 refine gk_region env false [] [0,1,4,7,8,9] ?_
 refine gk_ifd (fun c1=> ?_) (fun c1=> ?_)
 ·try simp only[toN]at c1
  refine gk_region env false [] [0,1,4,5,7,8] ?_
  refine gk_region env false [.call (check1_ok (l.getD i default) f)] [0,1,4,5,7,8,16] ?_
  refine gk_if (fun c2=> ?_) (fun c2=> ?_)
  ·try simp only[bb,toN]at c2
   refine gk_region env false [] [0,1,4,7,8] ?_
   refine gk_ret env ?_
   rw[he,findI,if_pos (by omega),if_pos (by simpa using c2)];rfl
  ·try simp only[bb,toN]at c2
   refine gk_region env false [] [0,1,4,7,8] ?_
   refine gk_round (i+1) ?_ (hp:=by simp[AllP]<;>rfl)
   refine ⟨by omega,he.trans ?_⟩
   rw[findI,if_pos (by omega),if_neg (by simpa using c2)]
 ·try simp only[toN]at c1
  refine gk_region env false [] [4] ?_
  refine gk_ret env ?_
  rw[he,findI,if_neg (by omega)];rfl
theorem hasF_ok (l:List Fl) (hl:l.length≤9223372036854775807) (f:Fl):GC Tryz.prog 107 [.d (.row default flC l),.fn (.func 108) [] [.ep (flC f)]] (bG (l.any fun g=>decide (g.name=f.name))):=by
 refine gc_of_gk Tryz.func107 ?_
 refine gk_region env false [] [0,1,4] ?_
 refine gk_region env false [.call (indexF_ok l hl f)] [4] ?_
 refine gk_ret env ?_
 rw[←findI_any];rfl
end Go.Gh
namespace Go.Gh
open Go Go.Proofs
set_option maxRecDepth 1000000
set_option maxHeartbeats 2000000
set_option linter.unusedSimpArgs false
set_option linter.unusedVariables false
set_option linter.unnecessarySimpa false
open Go.RowKit
theorem fieldsE_bad {fs:List Fl} {i:Nat} {e:Int} (hi:i<fs.length) (he:fieldsE fs 0=fieldsE fs i) (h:fieldE fs i=e) (h0:e≠0):fieldsE fs 0=e:=by
 rw[he,fieldsE,if_pos hi,if_neg (by rw[h];exact h0),h]
theorem fieldsE_on {fs:List Fl} {i:Nat} (hi:i<fs.length) (he:fieldsE fs 0=fieldsE fs i) (h:fieldE fs i=0):fieldsE fs 0=fieldsE fs (i+1):=by
 rw[he,fieldsE,if_pos hi,if_pos h]
theorem fieldE_2 {fs:List Fl} {i:Nat} (h:nameOk (fs.getD i default).name=false):fieldE fs i=2:=by rw[fieldE,if_pos h]
theorem fieldE_5 {fs:List Fl} {i:Nat} (h:nameOk (fs.getD i default).name=true) (h2:((fs.take i).any fun g=>decide (g.name=(fs.getD i default).name))=true):fieldE fs i=5:=by rw[fieldE,if_neg (by rw[h];simp),if_pos h2]
theorem fieldE_6 {fs:List Fl} {i:Nat} (h:nameOk (fs.getD i default).name=true) (h2:((fs.take i).any fun g=>decide (g.name=(fs.getD i default).name))=false) (h3:(8:Int)<(fs.getD i default).words.length):fieldE fs i=6:=by
 rw[fieldE,if_neg (by rw[h];simp),if_neg (by rw[h2];simp),if_pos (by omega)]
theorem fieldE_w {fs:List Fl} {i:Nat} (h:nameOk (fs.getD i default).name=true) (h2:((fs.take i).any fun g=>decide (g.name=(fs.getD i default).name))=false) (h3:¬(8:Int)<(fs.getD i default).words.length):fieldE fs i=wordsE (fs.getD i default).words 0:=by
 rw[fieldE,if_neg (by rw[h];simp),if_neg (by rw[h2];simp),if_neg (by omega)]
theorem check_ok (d:Dc) (hd:Fit d):GC Tryz.prog 78 [dcG d] (iG (checkE d)):=by
 have hd1:=hd.kind
 have hd2:=hd.fields
 refine gc_of_gk Tryz.func78 ?_
 refine gk_region env false [] [1,2] ?_
 refine gk_region env false [.call (name_ok d.kind (by omega))] [1,2,11] ?_
 refine gk_if (fun c1=> ?_) (fun c1=> ?_)
 ·try simp only[bb,toN]at c1
  refine gk_region env false [] [1,2] ?_
  refine gk_ret env ?_
  rw[checkE,if_pos (by simpa using c1)];rfl
 ·try simp only[bb,toN]at c1
  refine gk_region env false [] [1,2,15] ?_
  refine gk_ifd (fun c2=> ?_) (fun c2=> ?_)
  ·try simp only[toN]at c2
   refine gk_region env false [] [1,2] ?_
   refine gk_ret env ?_
   rw[checkE,if_neg (by simp[c1]),if_pos (by omega)];rfl
  ·try simp only[toN]at c2
   refine gk_region env false [] [1,2,17,18,19] ?_
   refine gk_loop (α:=Nat) (fun i=>i≤d.fields.length∧fieldsE d.fields 0=fieldsE d.fields i) (fun i=>[(19,iG i)]) (fun _=>[]) (fun i=>d.fields.length-i) 0 ⟨by omega,rfl⟩ ?_
   rintro i ⟨hi,he⟩
   have hf:=fun h:i<d.fields.length=>hd.at_ h
   refine gk_region env false [] [1,2,17,18,19,20] ?_
   refine gk_ifd (fun c3=> ?_) (fun c3=> ?_)
   ·try simp only[toN]at c3
    refine gk_region env false [] [1,2,3,4,17,18,19] ?_
    refine gk_region env false [.call (name_ok (d.fields.getD i default).name (by have:=(hf (by omega)).name;omega))] [1,2,3,4,17,18,19,24] ?_
    refine gk_if (fun c4=> ?_) (fun c4=> ?_)
    ·try simp only[bb,toN]at c4
     refine gk_region env false [] [1,2,4,17,18,19] ?_
     refine gk_ret env ?_
     rw[checkE,if_neg (by simp[c1]),if_neg (by omega),fieldsE_bad (by omega) he (fieldE_2 c4) (by omega)];rfl
    ·try simp only[bb,toN]at c4
     refine gk_box 1 ?_
     refine gk_region env false [.call (hasF_ok (d.fields.take i) (by simp;omega) (d.fields.getD i default))] [1,2,4,17,18,19,29] ?_ (hp:=(by simp only[AllP,bb,toN,loI,hiI];repeat' first|exact trivial|exact EntL.refl _|exact BEntL.refl _|exact rfl|omega|apply And.intro|intro _))
     refine gk_if (fun c5=> ?_) (fun c5=> ?_)
     ·try simp only[bb,toN]at c5
      refine gk_region env false [] [1,2,4,17,18,19] ?_
      refine gk_ret env ?_
      rw[checkE,if_neg (by simp[c1]),if_neg (by omega),fieldsE_bad (by omega) he (fieldE_5 c4 c5) (by omega)];rfl
     ·try simp only[bb,toN]at c5
      refine gk_region env false [] [1,2,4,17,18,19,36] ?_
      refine gk_ifd (fun c6=> ?_) (fun c6=> ?_)
      ·try simp only[toN]at c6
       refine gk_region env false [] [1,2,4,17,18,19] ?_
       refine gk_ret env ?_
       rw[checkE,if_neg (by simp[c1]),if_neg (by omega),fieldsE_bad (by omega) he (fieldE_6 c4 c5 c6) (by omega)];rfl
      ·try simp only[toN]at c6
       refine gk_region env false [] [1,2,17,18,19,42,43,44] ?_
       refine gk_loop (α:=Nat) (fun k=>k≤(d.fields.getD i default).words.length∧wordsE (d.fields.getD i default).words 0=wordsE (d.fields.getD i default).words k) (fun k=>[(44,iG k)]) (fun _=>[]) (fun k=>(d.fields.getD i default).words.length-k) 0 ⟨by omega,rfl⟩ ?_
       rintro k ⟨hk,hk2⟩
       have hf2:=fun h:k<(d.fields.getD i default).words.length=>(hf (by omega)).at_ h
       refine gk_region env false [] [1,2,17,18,19,42,43,44,45] ?_
       refine gk_ifd (fun c7=> ?_) (fun c7=> ?_)
       ·try simp only[toN]at c7
        refine gk_region env false [] [1,2,6,17,18,19,42,43,44] ?_
        refine gk_region env false [.call (word_ok ((d.fields.getD i default).words.getD k default) (hf2 (by omega)).1 (hf2 (by omega)).2)] [1,2,7,17,18,19,42,43,44] ?_
        refine gk_region env false [] [1,2,7,17,18,19,42,43,44,51] ?_
        refine gk_ifn (fun c8=> ?_) (fun c8=> ?_)
        ·try simp only[toN]at c8
         refine gk_region env false [] [1,2,17,18,19,42,43,44] ?_
         refine gk_ret env ?_
         have e:fieldE d.fields i=wordE ((d.fields.getD i default).words.getD k default):=(fieldE_w c4 c5 c6).trans (by rw[hk2,wordsE,if_pos (by omega),if_neg c8])
         rw[checkE,if_neg (by simp[c1]),if_neg (by omega),fieldsE_bad (by omega) he e c8];rfl
        ·try simp only[toN]at c8
         refine gk_region env false [] [1,2,17,18,19,42,43,44] ?_
         refine gk_round (k+1) ?_
         exact ⟨by omega,hk2.trans (by rw[wordsE,if_pos (by omega),if_pos (by omega)])⟩
       ·try simp only[toN]at c7
        refine gk_region env false [] [1,2,17,18,19] ?_
        refine gk_round (i+1) ?_
        exact ⟨by omega,fieldsE_on (by omega) he ((fieldE_w c4 c5 c6).trans (by rw[hk2,wordsE,if_neg (by omega)]))⟩
   ·try simp only[toN]at c3
    refine gk_region env false [] [2] ?_
    refine gk_ret env ?_
    rw[checkE,if_neg (by simp[c1]),if_neg (by omega),he,fieldsE,if_neg (by omega)];rfl
end Go.Gh
namespace Go.Gh
open Go Go.Proofs
set_option maxRecDepth 1000000
set_option maxHeartbeats 2000000
set_option linter.unusedSimpArgs false
set_option linter.unusedVariables false
set_option linter.unnecessarySimpa false
open Go.RowKit
structure Good (f:Fl):Prop where
 words:f.words.length≤8
 each:∀w,w∈f.words→wordE w=0
theorem wordE_0 {l:List ByteArray} (h:wordE l=0):1≤l.length∧l.length≤4∧(∀s,s∈l→validS s=true)∧dupW l 0=false:=by
 unfold wordE at h
 split at h
 ·omega
 ·split at h
  ·omega
  ·split at h
   ·omega
   ·split at h
    ·omega
    ·rename_i h1 h2 h3 h4
     refine ⟨by omega,by omega,fun s hs=> ?_,by simpa using h4⟩
     simp only[List.any_eq_true,not_exists,not_and,Bool.not_eq_true,Bool.not_eq_false']at h3
     simpa using h3 s hs
theorem wordsE_0 {ws:List (List ByteArray)} :∀(n k:Nat),ws.length-k=n→wordsE ws k=0→∀j,k≤j→j<ws.length→wordE (ws.getD j default)=0:=by
 intro n
 induction n with
 |zero=>intro k h _ j h1 h2;omega
 |succ n ih=>
  intro k h he j h1 h2
  rw[wordsE,if_pos (by omega)]at he
  split at he
  ·rename_i h3
   by_cases e:j=k
   ·subst e;exact h3
   ·exact ih (k+1) (by omega) he j (by omega) h2
  ·contradiction
theorem fieldsE_0 {fs:List Fl} :∀(n k:Nat),fs.length-k=n→fieldsE fs k=0→∀j,k≤j→j<fs.length→fieldE fs j=0:=by
 intro n
 induction n with
 |zero=>intro k h _ j h1 h2;omega
 |succ n ih=>
  intro k h he j h1 h2
  rw[fieldsE,if_pos (by omega)]at he
  split at he
  ·rename_i h3
   by_cases e:j=k
   ·subst e;exact h3
   ·exact ih (k+1) (by omega) he j (by omega) h2
  ·contradiction
theorem mem_getD {α:Type} [Inhabited α] {l:List α} {x:α} (h:x∈l):∃j,j<l.length∧l.getD j default=x:=by
 obtain ⟨j,hj⟩:=List.getElem?_of_mem h
 exact ⟨j,(List.getElem?_eq_some_iff.1 hj).1,by rw[List.getD_eq_getElem?_getD,hj];rfl⟩
structure Right (d:Dc):Prop where
 kind:nameOk d.kind=true
 len:d.fields.length≤12
 name:∀f,f∈d.fields→nameOk f.name=true
 good:∀f,f∈d.fields→Good f
 one:∀j,j<d.fields.length→((d.fields.take j).any fun g=>decide (g.name=(d.fields.getD j default).name))=false
theorem right_of {d:Dc} (h:checkE d=0):Right d:=by
 unfold checkE at h
 split at h
 ·omega
 ·rename_i h1
  split at h
  ·omega
  ·rename_i h2
   have key:∀j,j<d.fields.length→nameOk (d.fields.getD j default).name=true∧((d.fields.take j).any fun g=>decide (g.name=(d.fields.getD j default).name))=false∧Good (d.fields.getD j default):=fun j hj=>by
    have:=fieldsE_0 _ 0 rfl h j (Nat.zero_le _) hj
    unfold fieldE at this
    split at this
    ·omega
    ·rename_i h3
     split at this
     ·omega
     ·rename_i h4
      split at this
      ·omega
      ·rename_i h5
       refine ⟨by simpa using h3,Bool.eq_false_iff.2 h4,by omega,fun w hw=> ?_⟩
       obtain ⟨k,hk,rfl⟩:=mem_getD hw
       exact wordsE_0 _ 0 rfl this k (Nat.zero_le _) hk
   refine ⟨by simpa using h1,by omega,fun f hf=> ?_,fun f hf=> ?_,fun j hj=>(key j hj).2.1⟩
   ·obtain ⟨j,hj,rfl⟩:=mem_getD hf;exact (key j hj).1
   ·obtain ⟨j,hj,rfl⟩:=mem_getD hf;exact (key j hj).2.2
def sz:List (List ByteArray)→Nat
 | []=>1
 |w::ws=>w.length*sz ws
theorem drop_at {α:Type} [Inhabited α] {l:List α} {k:Nat} (h:k<l.length):l.drop k=l.getD k default::l.drop (k+1):=by
 rw[List.drop_eq_getElem_cons h,List.getD_eq_getElem?_getD,List.getElem?_eq_getElem h];rfl
theorem sz_at {ws:List (List ByteArray)} {k:Nat} (h:k<ws.length):sz (ws.drop k)=(ws.getD k default).length*sz (ws.drop (k+1)):=by rw[drop_at h];rfl
theorem sz_range {ws:List (List ByteArray)} (h:∀w,w∈ws→wordE w=0):1≤sz ws∧sz ws≤4^ws.length:=by
 induction ws with
 |nil=>simp[sz]
 |cons w ws ih=>
  obtain ⟨a,b⟩:=ih fun x hx=>h x (List.mem_cons_of_mem _ hx)
  obtain ⟨c1,c2,_⟩:=wordE_0 (h w List.mem_cons_self)
  refine ⟨Nat.mul_pos c1 a,?_⟩
  show w.length*sz ws≤4^(ws.length+1)
  rw[Nat.pow_succ,Nat.mul_comm (4^_)]
  exact Nat.mul_le_mul c2 b
theorem Good.at_ {f:Fl} (h:Good f) {k:Nat} (hk:k<f.words.length):wordE (f.words.getD k default)=0:=h.each _ (getD_mem hk)
theorem Good.drop {f:Fl} (h:Good f) (k:Nat):1≤sz (f.words.drop k):=(sz_range fun w hw=>h.each w (List.mem_of_mem_drop hw)).1
theorem Good.sz {f:Fl} (h:Good f):1≤sz f.words∧sz f.words≤65536:=by
 have h1:=sz_range h.each
 have h2:4^f.words.length≤4^8:=Nat.pow_le_pow_right (by omega) h.words
 exact ⟨h1.1,Nat.le_trans h1.2 h2⟩
theorem size_step {f:Fl} (hf:Good f) {k n:Nat} (hk:k<f.words.length) (he:n*sz (f.words.drop k)=sz f.words):n*(f.words.getD k default).length*sz (f.words.drop (k+1))=sz f.words∧n*(f.words.getD k default).length≤65536:=by
 rw[sz_at hk,←Nat.mul_assoc]at he
 refine ⟨he,?_⟩
 have h1:=hf.drop (k+1)
 have h2:n*(f.words.getD k default).length*1≤n*(f.words.getD k default).length*sz (f.words.drop (k+1)):=Nat.mul_le_mul_left _ h1
 have:=hf.sz.2
 omega
theorem size_ok (f:Fl) (hf:Good f):GC Tryz.prog 110 [flG f] (iG (sz f.words)):=by
 have hw:=hf.words
 refine gc_of_gk Tryz.func110 ?_
 refine gk_region env false [] [1,2] ?_
 refine gk_region env false [] [1,2,3] ?_
 refine gk_region env false [] [2,3,7,8,9] ?_
 refine gk_loop (α:=Nat×Nat) (fun x=>x.1≤f.words.length∧x.2*sz (f.words.drop x.1)=sz f.words) (fun x=>[(9,iG x.1),(3,iG x.2)]) (fun _=>[]) (fun x=>f.words.length-x.1) (0,1) ⟨by simp,by simp⟩ ?_
 rintro ⟨k,n⟩ ⟨hk,he⟩
 dsimp only at*
 refine gk_region env false [] [2,3,7,8,9,10] ?_
 refine gk_ifd (fun c1=> ?_) (fun c1=> ?_)
 ·try simp only[toN]at c1
  refine gk_region env false [] [2,3,5,7,8,9] ?_
  have hk2:=size_step hf (show k<f.words.length by omega) he
  have hk3:(n:Int)*((f.words.getD k default).length:Int)=((n*(f.words.getD k default).length:Nat):Int):=(Int.natCast_mul _ _).symm
  refine gk_region env false [] [2,3,7,8,9] ?_
  refine gk_region env false [] [2,3,7,8,9] ?_
  refine gk_round ((k+1,n*(f.words.getD k default).length)) ?_
  exact ⟨by simp only;omega,hk2.1⟩
 ·try simp only[toN]at c1
  refine gk_region env false [] [2] ?_
  refine gk_ret env ?_
  have e:k=f.words.length:=by omega
  subst e
  rw[List.drop_length]at he
  have e2:n=sz f.words:=by rw[←he];simp[sz]
  rw[e2];rfl
def countF (fs:List Fl) (i n:Nat):Int×Int:=if i<fs.length then if 4096<n*sz (fs.getD i default).words then (0,6)else countF fs (i+1) (n*sz (fs.getD i default).words)else (n,0)
termination_by fs.length-i
def countE (d:Dc):Int×Int:=if checkE d=0 then countF d.fields 0 1 else (0,checkE d)
theorem count_step {a b:Nat} (ha:a≤4096) (hb:b≤65536):(a:Int)*(b:Int)=((a*b:Nat):Int)∧a*b≤268435456:=by
 refine ⟨(Int.natCast_mul _ _).symm,?_⟩
 have:=Nat.mul_le_mul ha hb
 omega
theorem count_ok (d:Dc) (hd:Fit d):GC Tryz.prog 79 [dcG d] (.tup [iG (countE d).1,iG (countE d).2]):=by
 have hd2:=hd.fields
 refine gc_of_gk Tryz.func79 ?_
 refine gk_region env false [] [1,2,3] ?_
 refine gk_region env false [.call (check_ok d hd)] [1,2,3,4] ?_
 refine gk_region env false [] [1,2,3,4,11] ?_
 refine gk_ifn (fun c1=> ?_) (fun c1=> ?_)
 ·try simp only[toN]at c1
  refine gk_region env false [] [1,2,3] ?_
  refine gk_ret env ?_
  rw[countE,if_neg c1];rfl
 ·try simp only[toN]at c1
  have hr:=right_of c1
  refine gk_region env false [] [1,2,3,5] ?_
  refine gk_region env false [] [2,3,5,14,15,16] ?_
  refine gk_loop (α:=Nat×Nat) (fun x=>x.1≤d.fields.length∧x.2≤4096∧countF d.fields 0 1=countF d.fields x.1 x.2) (fun x=>[(16,iG x.1),(5,iG x.2)]) (fun _=>[]) (fun x=>d.fields.length-x.1) (0,1) ⟨by simp,by simp,rfl⟩ ?_
  rintro ⟨i,n⟩ ⟨hi,hn,he⟩
  dsimp only at*
  refine gk_region env false [] [2,3,5,14,15,16,17] ?_
  refine gk_ifd (fun c2=> ?_) (fun c2=> ?_)
  ·try simp only[toN]at c2
   refine gk_region env false [] [2,3,5,7,14,15,16] ?_
   have hs:=(hr.good _ (getD_mem (show i<d.fields.length by omega))).sz
   have hk:=count_step hn hs.2
   refine gk_region env false [.call (size_ok (d.fields.getD i default) (hr.good _ (getD_mem (by omega))))] [2,3,5,14,15,16] ?_
   refine gk_region env false [] [2,3,5,14,15,16,25] ?_
   refine gk_ifd (fun c3=> ?_) (fun c3=> ?_)
   ·try simp only[toN]at c3
    refine gk_region env false [] [2,3,5,14,15,16] ?_
    refine gk_ret env ?_
    rw[countE,if_pos c1,he,countF,if_pos (by omega),if_pos (by omega)];rfl
   ·try simp only[toN]at c3
    refine gk_region env false [] [2,3,5,14,15,16] ?_
    refine gk_round ((i+1,n*sz (d.fields.getD i default).words)) ?_
    refine ⟨by simp only;omega,by simp only;omega,he.trans ?_⟩
    rw[countF,if_pos (by omega),if_neg (by omega)]
  ·try simp only[toN]at c2
   refine gk_region env false [] [2,3] ?_
   refine gk_ret env ?_
   rw[countE,if_pos c1,he,countF,if_neg (by omega)];rfl
def wordsAt:List (List ByteArray)→Nat→List ByteArray
 | [],_=>[]
 |w::ws,i=>w.getD (i/sz ws % w.length) default::wordsAt ws i
theorem wordsAt_length (ws:List (List ByteArray)) (i:Nat):(wordsAt ws i).length=ws.length:=by
 induction ws with
 |nil=>rfl
 |cons w ws ih=>simp[wordsAt,ih]
theorem wordsAt_mem {ws:List (List ByteArray)} (h:∀w,w∈ws→wordE w=0) {i:Nat} {s:ByteArray} (hs:s∈wordsAt ws i):validS s=true:=by
 induction ws with
 |nil=>cases hs
 |cons w ws ih=>
  obtain ⟨c1,c2,c3,_⟩:=wordE_0 (h w List.mem_cons_self)
  rcases List.mem_cons.1 hs with e|hs
  ·subst e;exact c3 _ (getD_mem (Nat.mod_lt _ c1))
  ·exact ih (fun x hx=>h x (List.mem_cons_of_mem _ hx)) hs
theorem validS_size {s:ByteArray} (h:validS s=true):s.size≤20:=by
 simp only[validS,Bool.and_eq_true,decide_eq_true_eq]at h;omega
def chosen (ws:List (List ByteArray)) (i k:Nat):List ByteArray:=List.replicate k default++(wordsAt (ws.drop k) i++List.replicate (8-ws.length) default)
theorem chosen_top {ws:List (List ByteArray)} (h:ws.length≤8) (i:Nat):chosen ws i ws.length=List.replicate 8 default:=by
 rw[chosen,List.drop_length,wordsAt,List.nil_append,List.replicate_append_replicate];congr 1;omega
theorem chosen_length {ws:List (List ByteArray)} (h:ws.length≤8) (i:Nat) {k:Nat} (hk:k≤ws.length):(chosen ws i k).length=8:=by
 simp only[chosen,List.length_append,List.length_replicate,wordsAt_length,List.length_drop];omega
theorem putD_str {xs:List ByteArray} {k:Nat} (hk:k<xs.length) (s:ByteArray):putD (rowL strC xs) k 0 [.sc (.string s)]=rowL strC (xs.set k s):=by
 have e:(rowL strC xs).getD k []= [.sc (.string (xs.getD k default))]:=by
  simp[rowL,List.getD_eq_getElem?_getD,List.getElem?_eq_getElem hk,strC]
 rw[putD,e]
 simp only[rowL,List.map_set]
 rfl
theorem chosen_set {ws:List (List ByteArray)} {i k:Nat} (hk:k<ws.length):(chosen ws i (k+1)).set k ((ws.getD k default).getD (i/sz (ws.drop (k+1)) % (ws.getD k default).length) default)=chosen ws i k:=by
 have e:wordsAt (ws.drop k) i=(ws.getD k default).getD (i/sz (ws.drop (k+1)) % (ws.getD k default).length) default::wordsAt (ws.drop (k+1)) i:=by rw[drop_at hk];rfl
 rw[chosen,chosen,e,List.replicate_succ',List.append_assoc,List.set_append_right _ _ (by simp)]
 simp
theorem chosen_take {ws:List (List ByteArray)} (i:Nat):(chosen ws i 0).take ws.length=wordsAt ws i:=by
 rw[chosen,List.replicate_zero,List.nil_append,List.drop_zero,List.take_append_of_le_length (by rw[wordsAt_length];exact Nat.le_refl _),List.take_of_length_le (by rw[wordsAt_length];exact Nat.le_refl _)]
def joinS (xs:List ByteArray) (sep:ByteArray):ByteArray:=⟨(Lib.join (xs.map bs) (bs sep)).toArray⟩
theorem join_length (sep:List UInt8) (hs:sep.length≤1000):∀(xs:List (List UInt8)),(∀x,x∈xs→x.length≤1000)→(Lib.join xs sep).length≤2000*xs.length:=by
 intro xs
 match xs with
 | []=>intro _;simp[Lib.join]
 | [x]=>intro h;have:=h x List.mem_cons_self;simp[Lib.join,List.intercalate,List.intersperse];omega
 |x::y::l=>
  intro h
  have ih:=join_length sep hs (y::l) fun z hz=>h z (List.mem_cons_of_mem _ hz)
  have:=h x List.mem_cons_self
  have e:Lib.join (x::y::l) sep=x++sep++Lib.join (y::l) sep:=by simp[Lib.join,List.intercalate,List.intersperse]
  rw[e]
  simp only[List.length_append,List.length_cons]at ih⊢
  omega
theorem arr2 {us:Array Value} (h:us.size=2):∃u v,us= #[u,v]:=by
 obtain ⟨l⟩:=us
 match l,h with
 | [u,v],_=>exact ⟨u,v,rfl⟩
theorem join_ok (xs:List ByteArray) (sep:ByteArray) (hN:xs.length≤140737488355328) (hlen:(Lib.join (xs.map bs) (bs sep)).length≤140737488355328):GC Tryz.prog 101 [.d (.row default strC xs),sG sep] (sG (joinS xs sep)):=by
 refine gc_of_vrs Tryz.func101 rfl rfl rfl fun F w us hg hF hv=> ?_
 have h2:us.size=2:=hv.1
 obtain ⟨u,v,rfl⟩:=arr2 h2
 have e1:=(hv.2 1 (sG sep) v rfl rfl).sc_eq.1
 subst e1
 obtain ⟨A,c,b,off,es,val,rfl,hA,hc,hl,hw,hFc,hd⟩:=(hv.2 0 _ u rfl rfl).row_inv
 by_cases hx:xs= []
 ·subst hx
  refine (Tryz.strings_Join_none A c sep w).mono fun e w' ⟨h1,h2⟩=>⟨_,fun _ _=>False,h1,h2▸Below.refl _ _,fun _ _ h=>h.elim,.d (.sc _ rfl)⟩
 ·have hA':=hA hx
  subst hA'
  obtain ⟨x0,xl,hxx⟩:=List.exists_cons_of_ne_nil hx
  have hes:es=1:=by have:=hl x0 (by rw[hxx];exact List.mem_cons_self);simpa [strC]using this.symm
  subst hes
  have hcell:∀(j:Nat) x,xs[j]? =some x→w.cell? ⟨b,off+j,none⟩=some (.string x):=fun j x hj=>by
   have h3:=hw j x 0 (.sc (.string x)) hj rfl
   have h4:=hd j x 0 (.sc (.string x)) hj rfl
   generalize val j 0=z at h3 h4
   cases h4
   rw[Nat.mul_one,Nat.add_zero]at h3
   exact h3
  have hbk:b<w.heap.size:=by
   have h3:F b (off+0*1+0):=hFc 0 x0 0 (.sc (.string x0)) (by rw[hxx];rfl) rfl
   exact hF _ _ h3
  refine (Tryz.strings_Join b off c xs sep w hcell hbk hN hc hlen).mono fun e w' ⟨h1,h2⟩=>⟨_,fun _ _=>False,h1,h2,fun _ _ h=>h.elim,.d (.sc _ rfl)⟩
abbrev sp:ByteArray:=⟨#[32]⟩
def textF (f:Fl) (i:Nat):ByteArray:=joinS (wordsAt f.words i) sp
theorem text_join {f:Fl} (hf:Good f) (i:Nat):(Lib.join ((wordsAt f.words i).map bs) (bs sp)).length≤140737488355328:=by
 have:=join_length (bs sp) (by simp[bs]) ((wordsAt f.words i).map bs) fun x hx=>by
  obtain ⟨s,hs,rfl⟩:=List.mem_map.1 hx
  have:=validS_size (wordsAt_mem hf.each hs)
  show s.data.toList.length≤1000
  rw[Array.length_toList];show s.size≤1000;omega
 rw[List.length_map,wordsAt_length]at this
 have:=hf.words
 omega
theorem text_ok (f:Fl) (hf:Good f) (i:Nat) (hi:i≤9223372036854775807):GC Tryz.prog 112 [flG f,iG i] (sG (textF f i)):=by
 have hw:=hf.words
 refine gc_of_gk Tryz.func112 ?_
 refine gk_region env false [] [1,2,4] ?_
 refine gk_region env false [.arr default strC (List.replicate 8 default)] [1,2,4,5] ?_
 refine gk_region env false [] [1,2,4,5,6] ?_
 refine gk_loop (α:=Nat) (fun j=>j≤f.words.length) (fun j=>[(6,iG ((j:Int)-1)),(1,iG ((i/sz (f.words.drop j):Nat)))]) (fun j=>[(1,some (.row 214 1 default strC (chosen f.words i j) 0))]) (fun j=>j) f.words.length (Nat.le_refl _) ?_ (hp:=by simp only[AllP,chosen_top hf.words];simp[sz])
 rintro j hj
 refine gk_region env false [] [1,2,4,5,6,13] ?_
 refine gk_ifd (fun c1=> ?_) (fun c1=> ?_)
 ·try simp only[toN]at c1
  obtain ⟨m,rfl⟩:∃m,j=m+1:=⟨j-1,by omega⟩
  have em:((m+1:Nat):Int)-1=(m:Int):=by omega
  simp only[em]
  have hm:m<f.words.length:=by omega
  obtain ⟨w1,w2,_⟩:=wordE_0 (hf.at_ hm)
  have hq:i/sz (f.words.drop (m+1))≤i:=Nat.div_le_self _ _
  have hcs:=chosen_set (i:=i) hm
  have hdv:i/sz (f.words.drop m)=i/sz (f.words.drop (m+1))/(f.words.getD m default).length:=by rw[sz_at hm,Nat.mul_comm,Nat.div_div_eq_div_mul]
  generalize i/sz (f.words.drop (m+1))=x at hq hcs hdv⊢
  have hmod:(x:Int) % ((f.words.getD m default).length:Int)=((x % (f.words.getD m default).length:Nat):Int):=(Int.natCast_emod _ _).symm
  have hlt:x % (f.words.getD m default).length<(f.words.getD m default).length:=Nat.mod_lt _ w1
  have hdiv:(x:Int)/((f.words.getD m default).length:Int)=((x/(f.words.getD m default).length:Nat):Int):=(Int.natCast_ediv _ _).symm
  have hdl:x/(f.words.getD m default).length≤x:=Nat.div_le_self _ _
  have hcl:=chosen_length hf.words i (show m+1≤f.words.length by omega)
  refine gk_region env false [] [1,2,4,5,6,7] ?_
  refine gk_region env false [.el default strC (chosen f.words i m)] [1,2,4,5,6,7] ?_ (hp:=(by simp only[AllP,bb,toN,hmod,hcl];generalize x % (f.words.getD m default).length=y at hlt hcs⊢;rw[←hcs];repeat' first|exact trivial|exact EntL.refl _|exact rfl|omega|apply And.intro|intro _|(simp;done)|exact (putD_str (by rw[hcl];omega) _).symm))
  refine gk_region env false [] [1,2,4,5,6] ?_ (hp:=(by simp only[AllP,bb,toN,hdiv];generalize x/(f.words.getD m default).length=z at hdl⊢;repeat' first|exact trivial|exact EntL.refl _|exact rfl|omega|apply And.intro|intro _))
  refine gk_region env false [] [1,2,4,5,6] ?_
  refine gk_round (m) ?_ (hp:=by simp only[AllP,hdv];simp)
  omega
 ·try simp only[toN]at c1
  obtain rfl:j=0:=by omega
  refine gk_region env false [.call (join_ok (wordsAt f.words i) sp (by rw[wordsAt_length];omega) (text_join hf i))] [4] ?_ (hp:=(by simp only[AllP,bb,toN,loI,hiI,chosen_length hf.words i (Nat.zero_le _),chosen_take];repeat' first|exact trivial|exact EntL.refl _|exact rfl|omega|apply And.intro|intro _))
  refine gk_ret env ?_
  simp[tupG,textF]
end Go.Gh
namespace Go.Gh
open Go Go.Proofs
set_option maxRecDepth 1000000
set_option maxHeartbeats 2000000
set_option linter.unusedSimpArgs false
set_option linter.unusedVariables false
set_option linter.unnecessarySimpa false
open Go.RowKit
def ofL (l:List UInt8):ByteArray:=⟨l.toArray⟩
theorem ofL_bs (s:ByteArray):ofL (bs s)=s:=by cases s;rfl
theorem bs_size (s:ByteArray):(bs s).length=s.size:=by show s.data.toList.length=s.data.size;simp
def splitL:List UInt8→List (List UInt8)
 | []=>[[]]
 |c::l=>if c=32 then []::splitL l else match splitL l with
  |x::r=>(c::x)::r
  | []=>[[c]]
def parts (s:ByteArray):List ByteArray:=(splitL (bs s)).map ofL
end Go.Gh
namespace Go.Gh
open Go Go.Proofs
set_option maxRecDepth 1000000
set_option maxHeartbeats 2000000
set_option linter.unusedSimpArgs false
set_option linter.unusedVariables false
set_option linter.unnecessarySimpa false
open Go.RowKit
def fieldAt (d:Dc) (n:Int):Fl:=d.fields.getD n.toNat default
end Go.Gh
